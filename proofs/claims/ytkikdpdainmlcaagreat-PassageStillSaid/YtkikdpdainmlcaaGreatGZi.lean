import Derived.Test.YtkikdpdainmlcaaGreatGZg
import Derived.Test.YtkikdpdainmlcaaGreatGZd
import Derived.Maps.Own
import Derived.Maps.Views
import Derived.Test.YtkikdpdainmlcaaGreatGNc
set_option linter.unusedVariables false
set_option linter.unusedSimpArgs false
set_option linter.unnecessarySimpa false
namespace Go.Proofs.YtkikdpdainmlcaaGreat
open Go.RowKit Go.Xt
/-! Rows of rows in memory; Passages. -/
structure RR {α : Type} (W : World) (base : Nat) (TO te : TypeId) (sz : Nat) (ln : α → Nat) (cf : α → List Value) (v : Value) (zs : List Value) (out : List α) : Prop where
  row : W.ownsRow base TO 1 v zs.length zs
  len : zs.length = out.length
  el : ∀ (i : Nat) (z : Value) (s : α), zs[i]? = some z → out[i]? = some s → W.ownsRow base te sz z (ln s) (cf s)
  pv : ∀ z ∈ zs, ∀ g, z.ownBlock = some g → v.ownBlock ≠ some g
theorem RR.nil {α : Type} (W : World) (base : Nat) (TO te : TypeId) (sz : Nat) (ln : α → Nat) (cf : α → List Value) : RR W base TO te sz ln cf (.slice none 0 0) [] [] :=
  ⟨World.ownsRow_nil _ _ _ _, rfl, fun i z s h => by simp at h, fun z hz => by cases hz⟩
theorem RR.nw {α : Type} {W W' : World} {base : Nat} {TO te : TypeId} {sz : Nat} {ln : α → Nat} {cf : α → List Value} {v : Value} {zs : List Value} {out : List α} (h : RR W base TO te sz ln cf v zs out) (hn : Nw W W') : RR W' base TO te sz ln cf v zs out :=
  ⟨own_nw h.row hn, h.len, fun i z s hz hs => own_nw (h.el i z s hz hs) hn, h.pv⟩
theorem RR.le {α : Type} {W : World} {base base' : Nat} {TO te : TypeId} {sz : Nat} {ln : α → Nat} {cf : α → List Value} {v : Value} {zs : List Value} {out : List α} (h : RR W base TO te sz ln cf v zs out) (hb : base' ≤ base) : RR W base' TO te sz ln cf v zs out :=
  ⟨own_le h.row hb, h.len, fun i z s hz hs => own_le (h.el i z s hz hs) hb, h.pv⟩
theorem RR.lt {α : Type} {W : World} {base : Nat} {TO te : TypeId} {sz : Nat} {ln : α → Nat} {cf : α → List Value} {v : Value} {zs : List Value} {out : List α} (h : RR W base TO te sz ln cf v zs out) {z : Value} (hz : z ∈ zs) {g : Nat} (hg : z.ownBlock = some g) : base ≤ g ∧ g < W.heap.size := by
  obtain ⟨i, hi⟩ := List.mem_iff_getElem?.1 hz
  have hil : i < out.length := by rw [← h.len]; exact (List.getElem?_eq_some_iff.1 hi).1
  exact (h.el i z _ hi (List.getElem?_eq_getElem hil)).lt g hg
theorem RR.chg {α : Type} {W W' : World} {base : Nat} {TO te : TypeId} {sz : Nat} {ln : α → Nat} {cf : α → List Value} {v : Value} {zs : List Value} {out : List α} {X : List Nat} (h : RR W base TO te sz ln cf v zs out) (hc : Chg X W W') (hx : ∀ g, base ≤ g → g < W.heap.size → g ∉ X) : RR W' base TO te sz ln cf v zs out :=
  ⟨own_chg h.row hc (fun g hg => hx g (h.row.lt g hg).1 (h.row.lt g hg).2), h.len, fun i z s hz hs => own_chg (h.el i z s hz hs) hc (fun g hg => hx g ((h.el i z s hz hs).lt g hg).1 ((h.el i z s hz hs).lt g hg).2), h.pv⟩
theorem RR.push {α : Type} {W W1 wA : World} {base : Nat} {TO te : TypeId} {sz : Nat} {ln : α → Nat} {cf : α → List Value} {v v2 pv : Value} {zs : List Value} {out : List α} {s : α} (h : RR W base TO te sz ln cf v zs out) (hb : base ≤ W.heap.size) (hn : Nw W W1) (hp : W1.ownsRow W.heap.size te sz pv (ln s) (cf s))
    (hrow : wA.ownsRow base TO 1 v2 (zs.length + 1) (zs ++ [pv])) (hc : Chg v.ownBlock.toList W1 wA) (hmv : ∀ k, v2.ownBlock = some k → v.ownBlock = some k ∨ W1.heap.size ≤ k) :
    RR wA base TO te sz ln cf v2 (zs ++ [pv]) (out ++ [s]) := by
  have h1 := h.nw hn
  have hpl : ∀ g, pv.ownBlock = some g → W.heap.size ≤ g ∧ g < W1.heap.size := fun g hg => hp.lt g hg
  have hvl : ∀ g, v.ownBlock = some g → g < W.heap.size := fun g hg => (h.row.lt g hg).2
  have hpA : wA.ownsRow W.heap.size te sz pv (ln s) (cf s) := own_chg hp hc (fun g hg e => by
    rw [Option.mem_toList] at e; have := hvl g e; have := (hpl g hg).1; omega)
  refine ⟨by simpa using hrow, by simp [h.len], fun i z t hz ht => ?_, fun z hz g hg e => ?_⟩
  · by_cases hi : i < zs.length
    · rw [List.getElem?_append_left hi] at hz
      rw [List.getElem?_append_left (by rw [← h.len]; exact hi)] at ht
      have hm := List.mem_of_getElem? hz
      exact own_chg (h1.el i z t hz ht) hc (fun g hg e => by rw [Option.mem_toList] at e; exact h.pv z hm g hg e)
    · rw [List.getElem?_append_right (by omega)] at hz
      rw [List.getElem?_append_right (by rw [← h.len]; omega)] at ht
      have hiz : i - zs.length = 0 := by
        have := (List.getElem?_eq_some_iff.1 hz).1
        simp at this; omega
      rw [hiz] at hz
      rw [← h.len, hiz] at ht
      simp at hz ht
      subst hz ht
      exact own_le hpA hb
  · rcases List.mem_append.1 hz with hz | hz
    · rcases hmv g e with e2 | e2
      · exact h.pv z hz g hg e2
      · have := (h1.lt hz hg).2; omega
    · simp at hz; subst hz
      rcases hmv g e with e2 | e2
      · have := hvl g e2; have := (hpl g hg).1; omega
      · have := (hpl g hg).2; omega
theorem RR.one {α : Type} {W : World} {base : Nat} {TO te : TypeId} {sz : Nat} {ln : α → Nat} {cf : α → List Value} {pv : Value} {s : α} (hb : base ≤ W.heap.size) (hp : W.ownsRow base te sz pv (ln s) (cf s)) :
    RR (W.alloc (.cells #[pv] TO)) base TO te sz ln cf (.slice (some ⟨W.heap.size, 0, none⟩) 1 1) [pv] [s] := by
  refine ⟨⟨by simp, .inr ⟨W.heap.size, 1, #[pv], rfl, hb, heap_alloc_new W _, Nat.le_refl _, by unfold maxLen; omega, rfl, by simp⟩⟩, rfl, fun i z t hz ht => ?_, fun z hz g hg e => ?_⟩
  · cases i with
    | zero => simp at hz ht; subst hz ht; exact hp.alloc _
    | succ i => simp at hz
  · simp at hz; subst hz
    have := (hp.lt g hg).2
    injection e with e
    simp [Value.ownBlock] at e
    omega
theorem RR.get {α : Type} {W : World} {base : Nat} {TO te : TypeId} {sz : Nat} {ln : α → Nat} {cf : α → List Value} {v : Value} {zs : List Value} {out : List α} (h : RR W base TO te sz ln cf v zs out) {i : Nat} {s : α} (hs : out[i]? = some s) : ∃ z, zs[i]? = some z ∧ W.ownsRow base te sz z (ln s) (cf s) := by
  have hil : i < zs.length := by rw [h.len]; exact (List.getElem?_eq_some_iff.1 hs).1
  exact ⟨_, List.getElem?_eq_getElem hil, h.el i _ s (List.getElem?_eq_getElem hil) hs⟩
theorem isInfo2 : (Tryz.prog.info? 46).map (fun i => (i.zero, i.size, i.bytes)) = some (some (.slice none 0 0), 1, 24) := by kernel_rfl
theorem RR.push2 {α : Type} {W0 Wc W1 wA : World} {base : Nat} {TO te : TypeId} {sz : Nat} {ln : α → Nat} {cf : α → List Value} {v v2 pv : Value} {zs : List Value} {out : List α} {s : α} (h : RR W0 base TO te sz ln cf v zs out) (hb : base ≤ W0.heap.size) (hn0 : Nw W0 Wc) (hn : Nw Wc W1) (hp : W1.ownsRow Wc.heap.size te sz pv (ln s) (cf s))
    (hrow : wA.ownsRow base TO 1 v2 (zs.length + 1) (zs ++ [pv])) (hc : Chg v.ownBlock.toList W1 wA) (hmv : ∀ k, v2.ownBlock = some k → v.ownBlock = some k ∨ W1.heap.size ≤ k) :
    RR wA base TO te sz ln cf v2 (zs ++ [pv]) (out ++ [s]) := (h.nw hn0).push (Nat.le_trans hb hn0.grown.size) hn hp hrow hc hmv
def lnJ (L : List Nat) : Nat := (natI L).length
def cfJ (L : List Nat) : List Value := ints (natI L)
theorem opens_at {l : List Cl} {k : Nat} {x : Cl} (hx : l[k]? = some x) : opens k (l.drop k) = if begB x = true then k :: opens (k + 1) (l.drop (k + 1)) else opens (k + 1) (l.drop (k + 1)) := by
  obtain ⟨p, e⟩ := List.getElem?_eq_some_iff.1 hx
  rw [List.drop_eq_getElem_cons p, e, opens]
def PassY (w : World) (l : List Cl) (e : Ending) (w' : World) : Prop := ∃ v zs, e = .returned (.tuple #[v, .int .i64 0]) ∧ RR w' w.heap.size 46 3 1 lnJ cfJ v zs (passL l) ∧ Nw w w'
def PassN (w : World) (e : Ending) (w' : World) : Prop := e = .returned (.tuple #[.slice none 0 0, .int .i64 15]) ∧ Nw w w'
def PassP (w : World) (l : List Cl) : Ending → World → Prop := if bad l = none then PassY w l else PassN w
set_option maxRecDepth 20000 in
set_option maxHeartbeats 8000000 in
theorem passages_any (A : Option Addr) (n c : Nat) (l : List Cl) (w : World) (hn : n ≤ 1000) (hc : n ≤ c) (hcm : c ≤ 9223372036854775807) (hl : Cs w A n l) (hw : ∀ y ∈ l, WfC y) :
    Calls Tryz.prog 11 #[.slice A n c] w (PassP w l) := by
  have HCK := Lib.hid (hcheck_any A n c l w hn hc hcm hl hw)
  rcases chk_cases l with ⟨h1, h2⟩ | ⟨i, h1, h2⟩
  · rw [h2] at HCK
    unfold PassP
    rw [if_pos h1]
    have HL := Lib.hid hl
    have hlen := hl.1
    have HOF := Lib.hid (fun W (hq : Nw w W) (k : Nat) (x : Cl) (hx : l[k]? = some x) => of_any k x A n c l W hn hc hcm hx (hl.nw hq))
    have HN := Lib.hid hn
    have HLN := Lib.hid hlen
    clear hl hlen hn hc hcm hw h1 h2
    go_enter Tryz.func11, Tryz.ntmps11
    go_wp2_with fail
    refine HCK.out.mono ?_
    rintro e W1 ⟨rfl, d1, rfl⟩
    go_wp2_with fail
    go_loopw [6, 7, 8, 19] (fun v _ _ a wr => ∃ (k m : Nat) (Av : Option Addr) (cv : Nat), k ≤ n ∧ a = .int .i64 k ∧ v = .slice Av m cv ∧ Hid (∃ (zs : List Value) (out : List (List Nat)), zs.length = m ∧ m ≤ k ∧ out ++ (opens k (l.drop k)).map (ofP l) = passL l ∧ RR wr w.heap.size 46 3 1 lnJ cfJ v zs out) ∧ Nw w wr) (fun _ _ _ a _ => n - (intOf a).toNat)
    case atStart => exact ⟨0, 0, _, _, Nat.zero_le _, rfl, rfl, Lib.hid ⟨[], [], rfl, Nat.le_refl _, rfl, RR.nil _ _ _ _ _ _ _⟩, nwa⟩
    case round =>
      obtain ⟨k, m, Av, cv, hk, rfl, rfl, HH, d, rfl⟩ := hrel
      by_cases hlt : k < n
      · obtain ⟨b, o, x, rfl, hb, hx, hcx⟩ := HL.out.get hlt
        haveI : CallAt w b (o + k * 18) x := ⟨hcx, hb⟩
        haveI : In b w := ⟨hb⟩
        have HS := Lib.hid (opens_at hx)
        have HOF2 := Lib.hid (fun W hq => HOF.out W hq k x hx)
        have hkn : (k : Int) < (n : Int) := by omega
        have i3 : k < 1000000 := by have := HN.out; omega
        clear hx hcx hb
        cases c3 : begB x with
        | false =>
          have HT := Lib.hid (show opens k (l.drop k) = opens (k + 1) (l.drop (k + 1)) by rw [HS.out, if_neg (by rw [c3]; simp)])
          go_wp2_with (go_at_call 31; refine (begins_any x _).mono ?_; rintro e w' ⟨rfl, dW, rfl⟩)
          obtain ⟨zs, out, hzl, hmk, hout, hrr⟩ := HH.out
          exact ⟨⟨k + 1, m, Av, cv, by omega, by go_num, rfl, Lib.hid ⟨zs, out, hzl, by omega, by rw [← HT.out]; exact hout, hrr.nw (nwa)⟩, nwa⟩, by simp [intOf]; omega⟩
        | true =>
          have HT := Lib.hid (show opens k (l.drop k) = k :: opens (k + 1) (l.drop (k + 1)) by rw [HS.out, if_pos c3])
          obtain ⟨zs, out, hzl, hmk, hout, hrr⟩ := HH.out
          subst hzl
          have HRR := Lib.hid (And.intro hmk (And.intro hout hrr))
          have hmk2 : zs.length ≤ k := hmk
          clear hmk hout hrr HH
          go_wp2_with (first | (go_at_call 31; refine (begins_any x _).mono ?_; rintro e w' ⟨rfl, dW, rfl⟩) | fail)
          refine (HOF2.out _ nwa).mono ?_
          rintro e W6 ⟨vz, rfl, hown6, hn6⟩
          unfold OwnI at hown6
          obtain ⟨Az, cz, rfl⟩ := own_slice hown6
          have hn06 : Nw (w.ext none d) W6 := Nw.trans (nwa) hn6
          have HN06 := Lib.hid hn06
          have HNW6 := Lib.hid ((show Nw w (w.ext none d) from ⟨d, rfl⟩).trans hn06)
          have HPU := Lib.hid (fun (wA : World) (v2 : Value) (hrow : wA.ownsRow w.heap.size 46 1 v2 (zs.length + 1) (zs ++ [.slice Az (natI (ofP l k)).length cz])) hc hmv => HRR.out.2.2.push2 (s := ofP l k) (le_size w none d) (hn := hn6) (hp := hown6) (hrow := hrow) (hc := hc) (hmv := hmv) (hn0 := by exact nwa))
          clear hown6 hn6 hn06
          go_wp2_with (at_builtin; refine wpList_appC rfl _ _ 35 rfl 46 (.slice none 0 0) 1 24 Tryz.underlying35 isInfo2 rfl (by decide) w.heap.size _ HNW6.out.grown.size (.slice Av zs.length cv) zs.length zs rfl (own_nw HRR.out.2.2.row HN06.out) _ 1 1 _ [.slice Az (natI (ofP l k)).length cz] rfl rfl rfl (by intro u hu; simp at hu; subst hu; rfl) (by unfold maxLen; omega) (by omega) ?_; intro v8 W8 hA hcA hmA; obtain ⟨A8, c8, rfl⟩ := own_slice hA; have HR8 := Lib.hid (HPU.out W8 _ hA hcA hmA); have HN8 := Lib.hid (nw_chg2 HNW6.out hcA (fun q hq => by rw [Option.mem_toList] at hq; exact (World.ownsRow.lt HRR.out.2.2.row q hq).1)); clear hA hcA hmA)
          exact ⟨⟨k + 1, zs.length + 1, _, _, by omega, by go_num, rfl, Lib.hid ⟨_, _, by simp, by omega, by rw [← HRR.out.2.1, HT.out]; simp, HR8.out⟩, HN8.out⟩, by simp [intOf]; omega⟩
      · have hkn : k = n := by omega
        subst hkn
        obtain ⟨zs, out, hzl, hmk, hout, hrr⟩ := HH.out
        rw [List.drop_of_length_le (by rw [HLN.out]; exact Nat.le_refl _)] at hout
        have ho : out = passL l := by rw [← hout]; simp [opens]
        have HO := Lib.hid (And.intro ho hrr)
        clear hzl hmk hout ho hrr HH
        go_wp2
        refine bodyPost_ret (results_tmp2 rfl _ _ _) rfl ?_
        obtain ⟨rfl, hrr⟩ := HO.out
        exact ⟨_, zs, rfl, hrr, nwa⟩
  · rw [h2] at HCK
    unfold PassP
    rw [if_neg (by rw [h1]; simp)]
    clear hl hn hc hcm hw h1 h2
    go_enter Tryz.func11, Tryz.ntmps11
    go_wp2_with fail
    refine HCK.out.mono ?_
    rintro e W1 ⟨rfl, d1, rfl⟩
    go_wp2
    refine bodyPost_ret (results_tmp2 rfl _ _ _) rfl ⟨rfl, nwa⟩
end Go.Proofs.YtkikdpdainmlcaaGreat
namespace Go.Proofs.YtkikdpdainmlcaaGreat
open Go.RowKit Go.Xt
/-! left.after. -/
def lfv (x : Lf) : Value := .agg #[.int .u64 x.lo, .int .u64 x.hi, .bool x.more]
def rdF (b : Nat) (v : Value) : Option (DataW Unit × List MemPlace) :=
  match v with
  | .func (.func k) ⟨[.pointer (some ⟨b', 0, none⟩)]⟩ ⟨[]⟩ => if b' = b then some (.lit (.int .i64 k), []) else none
  | .nilFunc => some (.lit (.int .i64 (-1)), [])
  | _ => none
theorem rdF_fn (b k : Nat) : rdF b (.func (.func k) #[.pointer (some ⟨b, 0, none⟩)] #[]) = some (.lit (.int .i64 k), []) := by
  show (if b = b then _ else _) = _
  rw [if_pos rfl]
theorem rdF_inv {b : Nat} {v : Value} {d : DataW Unit} {ps : List MemPlace} (h : rdF b v = some (d, ps)) : (∃ k : Nat, v = .func (.func k) #[.pointer (some ⟨b, 0, none⟩)] #[] ∧ d = .lit (.int .i64 k)) ∨ (v = .nilFunc ∧ d = .lit (.int .i64 (-1))) := by
  unfold rdF at h
  split at h
  · rename_i k b'
    split at h
    · rename_i e
      subst e
      injection h with h; injection h with h1 h2
      exact .inl ⟨k, rfl, h1.symm⟩
    · cases h
  · injection h with h; injection h with h1 h2
    exact .inr ⟨rfl, h1.symm⟩
  · cases h
theorem fmap_at (a b : DataW Unit) (k : Int) : ((((DataW.map [] : DataW Unit).put (.int .u8 12) a).put (.int .u8 13) b).atKey (.int .u8 k) (.lit (.int .i64 (-1)))) = if k = 13 then b else if k = 12 then a else .lit (.int .i64 (-1)) := by
  by_cases h1 : k = 13
  · subst h1
    rw [if_pos rfl]
    exact Maps.atKey_put_same ((Maps.isMap_empty).put _ _) (by trivial) _ _
  · rw [if_neg h1, Maps.atKey_put_other (by simpa using h1)]
    by_cases h2 : k = 12
    · subst h2
      rw [if_pos rfl]
      exact Maps.atKey_put_same Maps.isMap_empty (by trivial) _ _
    · rw [if_neg h2, Maps.atKey_put_other (by simpa using h2)]
      rfl
theorem fn_neq (k : Nat) (A : Array Value) (W : World) : (binOp .neq 105 (.func (.func k) A #[]) .nilFunc).run Tryz.prog W = .ok (.bool true) W := by kernel_rfl
theorem nil_neq (W : World) : (binOp .neq 105 .nilFunc .nilFunc).run Tryz.prog W = .ok (.bool false) W := by kernel_rfl
theorem results_left {fn : Func} {p : Tmp} {tmps : Array Value} {w : World} {b : Nat} {x : Lf} (h : fn.results = #[.cell p 68]) (hp : tmps.getD p undef = .pointer (some ⟨b, 0, none⟩)) (h0 : w.cell? ⟨b, 0, none⟩ = some (.int .u64 x.lo)) (h1 : w.cell? ⟨b, 1, none⟩ = some (.int .u64 x.hi)) (h2 : w.cell? ⟨b, 2, none⟩ = some (.bool x.more)) : (results fn tmps).run Tryz.prog w = .ok (lfv x) w := by
  have hp' : tmps[p]?.getD undef = .pointer (some ⟨b, 0, none⟩) := by simpa using hp
  have hl := run_loadVar_mid (P := Tryz.prog) w b 0 68 [.int .u64 x.lo, .int .u64 x.hi, .bool x.more] _ (fun j v hv => by
    rw [Nat.zero_add]
    rcases j with _ | _ | _ | j
    · simp at hv; subst hv; exact h0
    · simp at hv; subst hv; exact h1
    · simp at hv; subst hv; exact h2
    · simp at hv) Tryz.underlying68 rfl (by kernel_rfl)
  simp only [results, h]
  simp [hp', asAddr, hl]
  rfl
set_option maxRecDepth 20000 in
set_option maxHeartbeats 4000000 in
theorem lafter_any (x : Lf) (c : Cl) (w : World) (hk : 0 ≤ c.ka ∧ c.ka < 18446744073709551616) (hr : 0 ≤ c.rk ∧ c.rk < 18446744073709551616) (hd : 0 ≤ c.kd ∧ c.kd < 256) (hh : x.hi < 18446744073709551616) :
    Calls Tryz.prog 24 #[lfv x, cv c] w fun e w' => e = .returned (lfv (aftL x c)) ∧ Nw w w' := by
  have hmm := @run_makeMap Tryz.prog
  have hmf : ∀ (fn : Fn) (first cap : Array Value) (w : World), (Instr.makeFunc fn first cap).run Tryz.prog w = .ok (.func fn first cap) w := fun _ _ _ _ => rfl
  have hk12 : keyOf Tryz.prog 5 (.int .u8 12) = some (.int .u8 12) := Maps.keyOf_int_mk Tryz.underlying5 (by decide)
  have hk13 : keyOf Tryz.prog 5 (.int .u8 13) = some (.int .u8 13) := Maps.keyOf_int_mk Tryz.underlying5 (by decide)
  have hkd : keyOf Tryz.prog 5 (.int .u8 c.kd) = some (.int .u8 c.kd) := Maps.keyOf_int_mk Tryz.underlying5 (by simp [Lit.wf, IntKind.min, IntKind.max, IntKind.bits, IntKind.signed]; omega)
  obtain ⟨W4, hW4⟩ : ∃ W, W = (((w.alloc (.cells #[.int .u64 x.lo, .int .u64 x.hi, .bool x.more] 68)).alloc (.cells #[.int .i64 c.th, .int .i64 c.ix, .int .u8 c.kd, .int .u64 c.ka, .int .u64 c.kb, .int .u64 c.kc, .int .u64 c.kx, .int .u64 c.ky, .int .u64 c.kz, .int .i64 c.inv, .int .i64 c.took, .int .i64 c.ans, .int .i64 c.st, .int .i64 c.re, .bool c.rf, .int .u64 c.rk, .int .u64 c.rv, .int .i64 c.rc] 45)).alloc (.cells #[.int .u64 0, .int .u64 0, .bool false] 68)).alloc (.cells #[.int .u64 x.lo, .int .u64 x.hi, .bool x.more] 68) := ⟨_, rfl⟩
  have hn4 : Nw w W4 := by rw [hW4]; exact nwa
  have hs4 : W4.heap.size = w.heap.size + 4 := by rw [hW4]; simp
  have hx4 : LfAt W4 (w.heap.size + 1 + 1 + 1) x := by rw [hW4]; exact ⟨by simp [go_sem], by simp [go_sem], by simp [go_sem], by simp [go_sem], by simp [go_sem]⟩
  have hc4 : CallAt W4 (w.heap.size + 1) 0 c := by
    have h0 : ∀ w0 : World, CallAt (w0.alloc (.cells #[.int .i64 c.th, .int .i64 c.ix, .int .u8 c.kd, .int .u64 c.ka, .int .u64 c.kb, .int .u64 c.kc, .int .u64 c.kx, .int .u64 c.ky, .int .u64 c.kz, .int .i64 c.inv, .int .i64 c.took, .int .i64 c.ans, .int .i64 c.st, .int .i64 c.re, .bool c.rf, .int .u64 c.rk, .int .u64 c.rv, .int .i64 c.rc] 45)) w0.heap.size 0 c := fun w0 => inferInstance
    have h1 := h0 (w.alloc (.cells #[.int .u64 x.lo, .int .u64 x.hi, .bool x.more] 68))
    rw [World.size_alloc] at h1
    exact CallAt.nwq (h := h1) (by rw [hW4]; exact nwa)
  have r0 : W4.cell? ⟨w.heap.size + 1 + 1, 0, none⟩ = some (.int .u64 0) ∧ W4.cell? ⟨w.heap.size + 1 + 1, 1, none⟩ = some (.int .u64 0) ∧ W4.cell? ⟨w.heap.size + 1 + 1, 2, none⟩ = some (.bool false) ∧ W4.frozen? ⟨w.heap.size + 1 + 1, 0, none⟩ = false ∧ W4.frozen? ⟨w.heap.size + 1 + 1, 1, none⟩ = false ∧ W4.frozen? ⟨w.heap.size + 1 + 1, 2, none⟩ = false := by rw [hW4]; refine ⟨?_, ?_, ?_, ?_, ?_, ?_⟩ <;> simp [go_sem]
  obtain ⟨w1, hrun1, hown1, hg1⟩ := (World.ownsMap_made W4 Tryz.prog 5 (rdF (w.heap.size + 1 + 1 + 1))).update (t := 106) (Maps.int_keyed Tryz.underlying5) Tryz.underlying106 (by unfold maxLen; omega) hk12 (rdF_fn (w.heap.size + 1 + 1 + 1) 51)
  obtain ⟨w2, hrun2, hown2, hg2⟩ := hown1.update (t := 106) (Maps.int_keyed Tryz.underlying5) Tryz.underlying106 (by unfold maxLen; omega) hk13 (rdF_fn (w.heap.size + 1 + 1 + 1) 52)
  obtain ⟨v, ps, hrun3, hv⟩ := hown2.lookup (t := 106) (Maps.int_keyed Tryz.underlying5) Tryz.underlying106 (Tryz.zeroValue105 _) rfl hkd
  have HH := Lib.hid (And.intro hk (And.intro hr (And.intro hd hh)))
  have hG : Chg [W4.heap.size] (W4.alloc (.map #[] 0)) w2 := by
    have h1 : Chg [W4.heap.size] (W4.alloc (.map #[] 0)) w1 := ⟨hg1.os, hg1.tape, hg1.output, hg1.size, fun k hk hx => hg1.block k hk (fun e => hx (by simp at e; simp [e]))⟩
    have h2 : Chg [W4.heap.size] w1 w2 := ⟨hg2.os, hg2.tape, hg2.output, hg2.size, fun k hk hx => hg2.block k hk (fun e => hx (by simp at e; simp [e]))⟩
    exact h1.trans h2
  have hn2 : Nw W4 w2 := nw_chg2 ((Nw.refl W4).alloc _) hG (fun k hk => by simp at hk; omega)
  have hx2 := hx4.nw hn2
  haveI hc2 : CallAt w2 (w.heap.size + 1) 0 c := CallAt.nwq hn2
  have e2 : w2.cell? ⟨w.heap.size + 1, 2, none⟩ = some (.int .u8 c.kd) := (AtC.range hc2.at_) 2 _ rfl
  have q0 := cell_nw r0.1 hn2
  have q1 := cell_nw r0.2.1 hn2
  have q2 := cell_nw r0.2.2.1 hn2
  have qf0 : w2.frozen? ⟨w.heap.size + 1 + 1, 0, none⟩ = false := (frozen_nw (World.block_lt_of_cell? W4 _ r0.1) hn2).trans r0.2.2.2.1
  have qf1 : w2.frozen? ⟨w.heap.size + 1 + 1, 1, none⟩ = false := (frozen_nw (World.block_lt_of_cell? W4 _ r0.1) hn2).trans r0.2.2.2.2.1
  have qf2 : w2.frozen? ⟨w.heap.size + 1 + 1, 2, none⟩ = false := (frozen_nw (World.block_lt_of_cell? W4 _ r0.1) hn2).trans r0.2.2.2.2.2
  have HN := Lib.hid (hn4.trans hn2)
  have HX2 := Lib.hid hx2
  have HW4 := Lib.hid hW4
  haveI : In (w.heap.size + 1 + 1) w2 := ⟨World.block_lt_of_cell? w2 _ q0⟩
  haveI : In (w.heap.size + 1) w2 := ⟨hc2.lt⟩
  haveI : In (w.heap.size + 1 + 1 + 1) w2 := ⟨World.block_lt_of_cell? w2 _ hx2.c0⟩
  clear hx4 hc4 r0 hG hn2 hown1 hown2 hg1 hg2 hs4 hk hr hd hh hn4 hk12 hk13 hkd hW4 hx2
  unfold lfv
  rw [fmap_at] at hv
  have hne := fn_neq
  have hnn := nil_neq
  by_cases k13 : c.kd = 13
  · rw [if_pos k13] at hv
    rcases rdF_inv hv with ⟨k, rfl, hkk⟩ | ⟨rfl, hkk⟩
    · obtain rfl : k = 52 := by simp at hkk; omega
      have HA := Lib.hid (show aftL x c = seekL x c by unfold aftL; rw [if_neg (by omega), if_pos k13])
      clear hkk hv k13
      go_enter Tryz.func24, Tryz.ntmps24
      go_upto_region 2 with (fail)
      rw [← HW4.out]
      go_wp2_with fail
      refine (lseek_any _ x c w2 HX2.out HH.out.1 HH.out.2.2.2).mono ?_
      rintro e W8 ⟨rfl, hx8, W7, hn7, hc7⟩
      have c0 := hx8.c0
      have c1 := hx8.c1
      have c2 := hx8.c2
      have z0 := hc7.cell (cell_nw q0 hn7) (by simp)
      have z1 := hc7.cell (cell_nw q1 hn7) (by simp)
      have z2 := hc7.cell (cell_nw q2 hn7) (by simp)
      have zf0 : W8.frozen? ⟨w.heap.size + 1 + 1, 0, none⟩ = false := (hc7.frozen (World.block_lt_of_cell? W7 _ (cell_nw q0 hn7)) (by simp)).trans ((frozen_nw (World.block_lt_of_cell? w2 _ q0) hn7).trans qf0)
      have zf1 : W8.frozen? ⟨w.heap.size + 1 + 1, 1, none⟩ = false := (hc7.frozen (World.block_lt_of_cell? W7 _ (cell_nw q0 hn7)) (by simp)).trans ((frozen_nw (World.block_lt_of_cell? w2 _ q0) hn7).trans qf1)
      have zf2 : W8.frozen? ⟨w.heap.size + 1 + 1, 2, none⟩ = false := (hc7.frozen (World.block_lt_of_cell? W7 _ (cell_nw q0 hn7)) (by simp)).trans ((frozen_nw (World.block_lt_of_cell? w2 _ q0) hn7).trans qf2)
      haveI : In (w.heap.size + 1 + 1) W8 := ⟨World.block_lt_of_cell? W8 _ z0⟩
      haveI : In (w.heap.size + 1 + 1 + 1) W8 := ⟨World.block_lt_of_cell? W8 _ c0⟩
      have HN8 := Lib.hid (nw_chg2 (HN.out.trans hn7) hc7 (fun k hk => by simp at hk; omega))
      clear hx8 hn7 hc7
      go_wp2
      refine bodyPost_ret (v := lfv (aftL x c)) ?_ rfl ⟨rfl, by repeat (first | exact HN8.out | refine Nw.setCell ?_ (by simp; omega) _)⟩
      refine results_left (p := 4) rfl (by rfl) ?_ ?_ ?_
      · rw [HA.out]; simp [go_sem, z0]
      · rw [HA.out]; simp [go_sem, z1]
      · rw [HA.out]; simp [go_sem, z2]
    · simp at hkk
  · rw [if_neg k13] at hv
    by_cases k12 : c.kd = 12
    · rw [if_pos k12] at hv
      rcases rdF_inv hv with ⟨k, rfl, hkk⟩ | ⟨rfl, hkk⟩
      · obtain rfl : k = 51 := by simp at hkk; omega
        have HA := Lib.hid (show aftL x c = nextL' x c by unfold aftL; rw [if_pos k12])
        clear hkk hv k13 k12
        go_enter Tryz.func24, Tryz.ntmps24
        go_upto_region 2 with (fail)
        rw [← HW4.out]
        go_wp2_with fail
        refine (lnext_any _ x c w2 HX2.out HH.out.2.1 HH.out.2.2.2).mono ?_
        rintro e W8 ⟨rfl, hx8, W7, hn7, hc7⟩
        have c0 := hx8.c0
        have c1 := hx8.c1
        have c2 := hx8.c2
        have z0 := hc7.cell (cell_nw q0 hn7) (by simp)
        have z1 := hc7.cell (cell_nw q1 hn7) (by simp)
        have z2 := hc7.cell (cell_nw q2 hn7) (by simp)
        have zf0 : W8.frozen? ⟨w.heap.size + 1 + 1, 0, none⟩ = false := (hc7.frozen (World.block_lt_of_cell? W7 _ (cell_nw q0 hn7)) (by simp)).trans ((frozen_nw (World.block_lt_of_cell? w2 _ q0) hn7).trans qf0)
        have zf1 : W8.frozen? ⟨w.heap.size + 1 + 1, 1, none⟩ = false := (hc7.frozen (World.block_lt_of_cell? W7 _ (cell_nw q0 hn7)) (by simp)).trans ((frozen_nw (World.block_lt_of_cell? w2 _ q0) hn7).trans qf1)
        have zf2 : W8.frozen? ⟨w.heap.size + 1 + 1, 2, none⟩ = false := (hc7.frozen (World.block_lt_of_cell? W7 _ (cell_nw q0 hn7)) (by simp)).trans ((frozen_nw (World.block_lt_of_cell? w2 _ q0) hn7).trans qf2)
        haveI : In (w.heap.size + 1 + 1) W8 := ⟨World.block_lt_of_cell? W8 _ z0⟩
        haveI : In (w.heap.size + 1 + 1 + 1) W8 := ⟨World.block_lt_of_cell? W8 _ c0⟩
        have HN8 := Lib.hid (nw_chg2 (HN.out.trans hn7) hc7 (fun k hk => by simp at hk; omega))
        clear hx8 hn7 hc7
        go_wp2
        refine bodyPost_ret (v := lfv (aftL x c)) ?_ rfl ⟨rfl, by repeat (first | exact HN8.out | refine Nw.setCell ?_ (by simp; omega) _)⟩
        refine results_left (p := 4) rfl (by rfl) ?_ ?_ ?_
        · rw [HA.out]; simp [go_sem, z0]
        · rw [HA.out]; simp [go_sem, z1]
        · rw [HA.out]; simp [go_sem, z2]
      · simp at hkk
    · rw [if_neg k12] at hv
      rcases rdF_inv hv with ⟨k, rfl, hkk⟩ | ⟨rfl, hkk⟩
      · exfalso
        simp at hkk <;> omega
      · have HA := Lib.hid (show aftL x c = x by unfold aftL; rw [if_neg k12, if_neg k13])
        have c0 := HX2.out.c0
        have c1 := HX2.out.c1
        have c2 := HX2.out.c2
        clear hkk hv k13 k12
        go_enter Tryz.func24, Tryz.ntmps24
        go_upto_region 2 with (fail)
        rw [← HW4.out]
        go_wp2
        refine bodyPost_ret (v := lfv (aftL x c)) ?_ rfl ⟨rfl, by repeat (first | exact HN.out | refine Nw.setCell ?_ (by simp; omega) _)⟩
        refine results_left (p := 4) rfl (by rfl) ?_ ?_ ?_
        · rw [HA.out]; simp [go_sem, q0]
        · rw [HA.out]; simp [go_sem, q1]
        · rw [HA.out]; simp [go_sem, q2]
end Go.Proofs.YtkikdpdainmlcaaGreat
namespace Go.Proofs.YtkikdpdainmlcaaGreat
open Go.RowKit Go.Xt
/-! ContainsFunc and Contains; has. -/
theorem anyf_take {α : Type} {q : α → Bool} {l : List α} {i : Nat} {x : α} (hx : l[i]? = some x) (h0 : (l.take i).any q = false) (h1 : q x = false) : (l.take (i + 1)).any q = false := by
  obtain ⟨p, e⟩ := List.getElem?_eq_some_iff.1 hx
  rw [List.take_succ_eq_append_getElem p, List.any_append, h0, e]; simp [h1]
theorem any_of_get {α : Type} {q : α → Bool} {l : List α} {i : Nat} {x : α} (hx : l[i]? = some x) (h1 : q x = true) : l.any q = true := List.any_eq_true.2 ⟨x, List.mem_of_getElem? hx, h1⟩
set_option maxRecDepth 20000 in
set_option maxHeartbeats 4000000 in
theorem ccPI_any (A : Option Addr) (n c : Nat) (pp : Addr) (l : List (Int × Int)) (q : Int × Int → Bool) (w : World) (ha : Rd w 2 A n (pcells l)) (hn : n ≤ 1000000)
    (hq : ∀ x ∈ l, ∀ W, Nw w W → Calls Tryz.prog 72 #[.agg #[.int .u64 x.1, .int .u64 x.2], .pointer (some pp)] W fun e W' => e = .returned (.bool (q x)) ∧ Nw W W') :
    Calls Tryz.prog 82 #[.slice A n c, (.func (.func 72) #[] #[.pointer (some pp)])] w fun e w' => (∃ r : Int, e = .returned (.int .i64 r) ∧ decide (0 ≤ r) = l.any q) ∧ Nw w w' := by
  have hln : l.length = n := by have := ha.1; rw [pcells_len] at this; omega
  have HA := Lib.hid ha
  have HL := Lib.hid hln
  have HN := Lib.hid hn
  have HQ := Lib.hid hq
  have HZ := Lib.hid True.intro
  clear ha hln hn hq
  go_enter Tryz.func82, Tryz.ntmps82
  go_wp2_with fail
  go_loopw [5, 8] (fun _ a wr => ∃ i : Nat, i ≤ n ∧ a = .int .i64 i ∧ Nw w wr ∧ Hid ((l.take i).any q = false)) (fun _ a _ => n - (intOf a).toNat)
  case atStart => exact ⟨0, Nat.zero_le _, rfl, nwa, Lib.hid (by simp)⟩
  case round =>
    obtain ⟨i, hi, rfl, ⟨d, rfl⟩, HT⟩ := hrel
    by_cases hin : i < n
    · obtain ⟨ga, oa, rfl, hga, hca⟩ := HA.out.2 (by omega)
      haveI : In ga w := ⟨hga⟩
      obtain ⟨⟨x1, x2⟩, hx⟩ : ∃ x, l[i]? = some x := ⟨_, List.getElem?_eq_getElem (by have := HL.out; omega)⟩
      obtain ⟨g0, g1⟩ := pcells_get l i _ hx
      have a0 : w.cell? ⟨ga, oa + i * 2, none⟩ = some (.int .u64 x1) := hca _ _ g0
      have a1 : w.cell? ⟨ga, oa + i * 2 + 1, none⟩ = some (.int .u64 x2) := by have := hca _ _ g1; rw [← Nat.add_assoc] at this; exact this
      clear g0 g1 hca
      have HX := Lib.hid hx
      have i1 : (i : Int) < (n : Int) := by omega
      have i0 : (0 : Int) ≤ (i : Int) := by omega
      have i2 : i < 1000000 := by have := HN.out; omega
      have HIN := Lib.hid hin
      obtain ⟨qb, hqb⟩ : ∃ b, b = q (x1, x2) := ⟨_, rfl⟩
      have HB := Lib.hid hqb
      clear hx hin hi hqb
      go_wp2_with fail
      refine (HQ.out (x1, x2) (List.mem_of_getElem? HX.out) _ nwa).mono ?_
      rintro e W8 ⟨rfl, hn8⟩
      rw [← HB.out]
      have HN8 := Lib.hid hn8
      cases qb with
      | true =>
        go_wp2
        go_ret
        refine ⟨⟨_, rfl, ?_⟩, (show Nw w (w.ext none d) from ⟨d, rfl⟩).trans HN8.out⟩
        rw [any_of_get HX.out HB.out.symm]; simp
      | false =>
        go_wp2
        refine ⟨⟨i + 1, by have := HIN.out; omega, by go_num, (show Nw w (w.ext none d) from ⟨d, rfl⟩).trans HN8.out, Lib.hid (anyf_take HX.out HT.out HB.out.symm)⟩, by have := HIN.out; simp [intOf]; omega⟩
    · have ei : i = n := by omega
      subst ei
      have hf : l.any q = false := by have h := HT.out; rw [List.take_of_length_le (by have := HL.out; omega)] at h; exact h
      have HF := Lib.hid hf
      clear hf
      go_wp2_with fail
      go_ret
      refine ⟨⟨_, rfl, ?_⟩, nwa⟩
      rw [HF.out]; simp
set_option maxHeartbeats 1000000 in
theorem ccPC_any (A : Option Addr) (n c : Nat) (pp : Addr) (l : List (Int × Int)) (q : Int × Int → Bool) (w : World) (ha : Rd w 2 A n (pcells l)) (hn : n ≤ 1000000)
    (hq : ∀ x ∈ l, ∀ W, Nw w W → Calls Tryz.prog 72 #[.agg #[.int .u64 x.1, .int .u64 x.2], .pointer (some pp)] W fun e W' => e = .returned (.bool (q x)) ∧ Nw W W') :
    Calls Tryz.prog 71 #[.slice A n c, (.func (.func 72) #[] #[.pointer (some pp)])] w fun e w' => e = .returned (.bool (l.any q)) ∧ Nw w w' := by
  have HH := Lib.hid (ccPI_any A n c pp l q w ha hn hq)
  clear ha hn hq
  obtain ⟨b, hb⟩ : ∃ b, b = l.any q := ⟨_, rfl⟩
  rw [← hb] at HH ⊢
  clear hb
  go_enter Tryz.func71, Tryz.ntmps71
  go_wp2_with fail
  refine HH.out.mono ?_
  rintro e W8 ⟨⟨r, rfl, hr⟩, hn8⟩
  go_wp2
  go_ret
  refine ⟨?_, hn8⟩
  first | rfl | rw [hr] | rw [show decide (r ≥ 0) = b from hr]
set_option maxRecDepth 20000 in
set_option maxHeartbeats 4000000 in
theorem ccSI_any (A : Option Addr) (n c : Nat) (pp : Addr) (l : List (Int × Int)) (q : Int × Int → Bool) (w : World) (ha : Rd w 2 A n (pcells l)) (hn : n ≤ 1000000)
    (hq : ∀ x ∈ l, ∀ W, Nw w W → Calls Tryz.prog 36 #[.agg #[.int .u64 x.1, .int .u64 x.2], .pointer (some pp)] W fun e W' => e = .returned (.bool (q x)) ∧ Nw W W') :
    Calls Tryz.prog 58 #[.slice A n c, (.func (.func 36) #[] #[.pointer (some pp)])] w fun e w' => (∃ r : Int, e = .returned (.int .i64 r) ∧ decide (0 ≤ r) = l.any q) ∧ Nw w w' := by
  have hln : l.length = n := by have := ha.1; rw [pcells_len] at this; omega
  have HA := Lib.hid ha
  have HL := Lib.hid hln
  have HN := Lib.hid hn
  have HQ := Lib.hid hq
  have HZ := Lib.hid True.intro
  clear ha hln hn hq
  go_enter Tryz.func58, Tryz.ntmps58
  go_wp2_with fail
  go_loopw [5, 8] (fun _ a wr => ∃ i : Nat, i ≤ n ∧ a = .int .i64 i ∧ Nw w wr ∧ Hid ((l.take i).any q = false)) (fun _ a _ => n - (intOf a).toNat)
  case atStart => exact ⟨0, Nat.zero_le _, rfl, nwa, Lib.hid (by simp)⟩
  case round =>
    obtain ⟨i, hi, rfl, ⟨d, rfl⟩, HT⟩ := hrel
    by_cases hin : i < n
    · obtain ⟨ga, oa, rfl, hga, hca⟩ := HA.out.2 (by omega)
      haveI : In ga w := ⟨hga⟩
      obtain ⟨⟨x1, x2⟩, hx⟩ : ∃ x, l[i]? = some x := ⟨_, List.getElem?_eq_getElem (by have := HL.out; omega)⟩
      obtain ⟨g0, g1⟩ := pcells_get l i _ hx
      have a0 : w.cell? ⟨ga, oa + i * 2, none⟩ = some (.int .u64 x1) := hca _ _ g0
      have a1 : w.cell? ⟨ga, oa + i * 2 + 1, none⟩ = some (.int .u64 x2) := by have := hca _ _ g1; rw [← Nat.add_assoc] at this; exact this
      clear g0 g1 hca
      have HX := Lib.hid hx
      have i1 : (i : Int) < (n : Int) := by omega
      have i0 : (0 : Int) ≤ (i : Int) := by omega
      have i2 : i < 1000000 := by have := HN.out; omega
      have HIN := Lib.hid hin
      obtain ⟨qb, hqb⟩ : ∃ b, b = q (x1, x2) := ⟨_, rfl⟩
      have HB := Lib.hid hqb
      clear hx hin hi hqb
      go_wp2_with fail
      refine (HQ.out (x1, x2) (List.mem_of_getElem? HX.out) _ nwa).mono ?_
      rintro e W8 ⟨rfl, hn8⟩
      rw [← HB.out]
      have HN8 := Lib.hid hn8
      cases qb with
      | true =>
        go_wp2
        go_ret
        refine ⟨⟨_, rfl, ?_⟩, (show Nw w (w.ext none d) from ⟨d, rfl⟩).trans HN8.out⟩
        rw [any_of_get HX.out HB.out.symm]; simp
      | false =>
        go_wp2
        refine ⟨⟨i + 1, by have := HIN.out; omega, by go_num, (show Nw w (w.ext none d) from ⟨d, rfl⟩).trans HN8.out, Lib.hid (anyf_take HX.out HT.out HB.out.symm)⟩, by have := HIN.out; simp [intOf]; omega⟩
    · have ei : i = n := by omega
      subst ei
      have hf : l.any q = false := by have h := HT.out; rw [List.take_of_length_le (by have := HL.out; omega)] at h; exact h
      have HF := Lib.hid hf
      clear hf
      go_wp2_with fail
      go_ret
      refine ⟨⟨_, rfl, ?_⟩, nwa⟩
      rw [HF.out]; simp
set_option maxHeartbeats 1000000 in
theorem ccSC_any (A : Option Addr) (n c : Nat) (pp : Addr) (l : List (Int × Int)) (q : Int × Int → Bool) (w : World) (ha : Rd w 2 A n (pcells l)) (hn : n ≤ 1000000)
    (hq : ∀ x ∈ l, ∀ W, Nw w W → Calls Tryz.prog 36 #[.agg #[.int .u64 x.1, .int .u64 x.2], .pointer (some pp)] W fun e W' => e = .returned (.bool (q x)) ∧ Nw W W') :
    Calls Tryz.prog 35 #[.slice A n c, (.func (.func 36) #[] #[.pointer (some pp)])] w fun e w' => e = .returned (.bool (l.any q)) ∧ Nw w w' := by
  have HH := Lib.hid (ccSI_any A n c pp l q w ha hn hq)
  clear ha hn hq
  obtain ⟨b, hb⟩ : ∃ b, b = l.any q := ⟨_, rfl⟩
  rw [← hb] at HH ⊢
  clear hb
  go_enter Tryz.func35, Tryz.ntmps35
  go_wp2_with fail
  refine HH.out.mono ?_
  rintro e W8 ⟨⟨r, rfl, hr⟩, hn8⟩
  go_wp2
  go_ret
  refine ⟨?_, hn8⟩
  first | rfl | rw [hr] | rw [show decide (r ≥ 0) = b from hr]
set_option maxRecDepth 20000 in
set_option maxHeartbeats 4000000 in
theorem ccMI_any (A : Option Addr) (n c : Nat) (pp : Addr) (l : List Mp) (zs : List Value) (q : Mp → Bool) (w : World) (ha : Rd w 1 A n zs) (hz : zs.length = l.length ∧ ∀ z ∈ zs, ∃ A n c, z = .slice A n c) (hn : n ≤ 1000000)
    (hq : ∀ (i : Nat) (x : Mp) (z : Value), l[i]? = some x → zs[i]? = some z → ∀ W, Nw w W → Calls Tryz.prog 49 #[z, .pointer (some pp)] W fun e W' => e = .returned (.bool (q x)) ∧ Nw W W') :
    Calls Tryz.prog 66 #[.slice A n c, (.func (.func 49) #[] #[.pointer (some pp)])] w fun e w' => (∃ r : Int, e = .returned (.int .i64 r) ∧ decide (0 ≤ r) = l.any q) ∧ Nw w w' := by
  have hln : l.length = n := by have := ha.1; have := hz.1; omega
  have HA := Lib.hid ha
  have HL := Lib.hid hln
  have HN := Lib.hid hn
  have HQ := Lib.hid hq
  have HZ := Lib.hid hz
  clear ha hln hn hq hz
  go_enter Tryz.func66, Tryz.ntmps66
  go_wp2_with fail
  go_loopw [5, 8] (fun _ a wr => ∃ i : Nat, i ≤ n ∧ a = .int .i64 i ∧ Nw w wr ∧ Hid ((l.take i).any q = false)) (fun _ a _ => n - (intOf a).toNat)
  case atStart => exact ⟨0, Nat.zero_le _, rfl, nwa, Lib.hid (by simp)⟩
  case round =>
    obtain ⟨i, hi, rfl, ⟨d, rfl⟩, HT⟩ := hrel
    by_cases hin : i < n
    · obtain ⟨ga, oa, rfl, hga, hca⟩ := HA.out.2 (by omega)
      haveI : In ga w := ⟨hga⟩
      obtain ⟨x1, hx⟩ : ∃ x, l[i]? = some x := ⟨_, List.getElem?_eq_getElem (by have := HL.out; omega)⟩
      obtain ⟨z, hz⟩ : ∃ z, zs[i]? = some z := ⟨_, List.getElem?_eq_getElem (by have := HZ.out.1; have := HA.out.1; omega)⟩
      obtain ⟨Az, nz, cz, rfl⟩ := HZ.out.2 z (List.mem_of_getElem? hz)
      have a0 : w.cell? ⟨ga, oa + i, none⟩ = some (.slice Az nz cz) := hca _ _ hz
      have hgz := hz
      clear hca
      have HX := Lib.hid hx
      have HGZ := Lib.hid hgz
      clear hgz hz
      have i1 : (i : Int) < (n : Int) := by omega
      have i0 : (0 : Int) ≤ (i : Int) := by omega
      have i2 : i < 1000000 := by have := HN.out; omega
      have HIN := Lib.hid hin
      obtain ⟨qb, hqb⟩ : ∃ b, b = q x1 := ⟨_, rfl⟩
      have HB := Lib.hid hqb
      clear hx hin hi hqb
      go_wp2_with fail
      refine (HQ.out i x1 _ HX.out HGZ.out _ nwa).mono ?_
      rintro e W8 ⟨rfl, hn8⟩
      rw [← HB.out]
      have HN8 := Lib.hid hn8
      cases qb with
      | true =>
        go_wp2
        go_ret
        refine ⟨⟨_, rfl, ?_⟩, (show Nw w (w.ext none d) from ⟨d, rfl⟩).trans HN8.out⟩
        rw [any_of_get HX.out HB.out.symm]; simp
      | false =>
        go_wp2
        refine ⟨⟨i + 1, by have := HIN.out; omega, by go_num, (show Nw w (w.ext none d) from ⟨d, rfl⟩).trans HN8.out, Lib.hid (anyf_take HX.out HT.out HB.out.symm)⟩, by have := HIN.out; simp [intOf]; omega⟩
    · have ei : i = n := by omega
      subst ei
      have hf : l.any q = false := by have h := HT.out; rw [List.take_of_length_le (by have := HL.out; omega)] at h; exact h
      have HF := Lib.hid hf
      clear hf
      go_wp2_with fail
      go_ret
      refine ⟨⟨_, rfl, ?_⟩, nwa⟩
      rw [HF.out]; simp
set_option maxHeartbeats 1000000 in
theorem ccMC_any (A : Option Addr) (n c : Nat) (pp : Addr) (l : List Mp) (zs : List Value) (q : Mp → Bool) (w : World) (ha : Rd w 1 A n zs) (hz : zs.length = l.length ∧ ∀ z ∈ zs, ∃ A n c, z = .slice A n c) (hn : n ≤ 1000000)
    (hq : ∀ (i : Nat) (x : Mp) (z : Value), l[i]? = some x → zs[i]? = some z → ∀ W, Nw w W → Calls Tryz.prog 49 #[z, .pointer (some pp)] W fun e W' => e = .returned (.bool (q x)) ∧ Nw W W') :
    Calls Tryz.prog 48 #[.slice A n c, (.func (.func 49) #[] #[.pointer (some pp)])] w fun e w' => e = .returned (.bool (l.any q)) ∧ Nw w w' := by
  have HH := Lib.hid (ccMI_any A n c pp l zs q w ha hz hn hq)
  clear ha hn hq hz
  obtain ⟨b, hb⟩ : ∃ b, b = l.any q := ⟨_, rfl⟩
  rw [← hb] at HH ⊢
  clear hb
  go_enter Tryz.func48, Tryz.ntmps48
  go_wp2_with fail
  refine HH.out.mono ?_
  rintro e W8 ⟨⟨r, rfl, hr⟩, hn8⟩
  go_wp2
  go_ret
  refine ⟨?_, hn8⟩
  first | rfl | rw [hr] | rw [show decide (r ≥ 0) = b from hr]
set_option maxHeartbeats 1000000 in
theorem has1_any (k : Int) (x1 x2 : Int) (bb : Nat) (w : World) (hk : w.cell? ⟨bb, 0, none⟩ = some (.int .u64 k)) :
    Calls Tryz.prog 72 #[.agg #[.int .u64 x1, .int .u64 x2], .pointer (some ⟨bb, 0, none⟩)] w fun e w' => e = .returned (.bool (decide (x1 = k))) ∧ Nw w w' := by
  haveI : In bb w := ⟨World.block_lt_of_cell? w _ hk⟩
  go_enter Tryz.func72, Tryz.ntmps72
  go_wp2
  all_goals (go_ret; refine ⟨?_, nwa⟩)
  all_goals rfl
set_option maxHeartbeats 1000000 in
theorem phas_any (A : Option Addr) (n c : Nat) (l : List (Int × Int)) (k : Int) (w : World) (ha : Rd w 2 A n (pcells l)) (hn : n ≤ 1000000) :
    Calls Tryz.prog 57 #[.slice A n c, .int .u64 k] w fun e w' => e = .returned (.bool (hasC k l)) ∧ Nw w w' := by
  have HH := Lib.hid (fun W (hW : Nw w W) (bb : Nat) (hc : W.cell? ⟨bb, 0, none⟩ = some (.int .u64 k)) => ccPC_any A n c ⟨bb, 0, none⟩ l (fun q => decide (q.1 = k)) W (ha.nw hW) hn (fun x _ W' hW' => has1_any k x.1 x.2 bb W' (cell_nw hc hW')))
  clear ha hn
  go_enter Tryz.func57, Tryz.ntmps57
  go_wp2_with fail
  refine (HH.out _ nwa w.heap.size (by simp [go_sem])).mono ?_
  rintro e W8 ⟨rfl, hn8⟩
  have h8 : Nw w W8 := Nw.trans (nwa) hn8
  go_wp2
  go_ret
  exact ⟨rfl, h8⟩
set_option maxRecDepth 20000 in
set_option maxHeartbeats 4000000 in
theorem ixP_any (A : Option Addr) (n c : Nat) (y1 y2 : Int) (l : List (Int × Int)) (w : World) (ha : Rd w 2 A n (pcells l)) (hn : n ≤ 1000000) :
    Calls Tryz.prog 67 #[.slice A n c, .agg #[.int .u64 y1, .int .u64 y2]] w fun e w' => (∃ r : Int, e = .returned (.int .i64 r) ∧ decide (0 ≤ r) = decide ((y1, y2) ∈ l)) ∧ Nw w w' := by
  have hln : l.length = n := by have := ha.1; rw [pcells_len] at this; omega
  have HA := Lib.hid ha
  have HL := Lib.hid hln
  have HN := Lib.hid hn
  clear ha hln hn
  go_enter Tryz.func67, Tryz.ntmps67
  go_wp2_with fail
  go_loopw [5, 8] (fun _ a wr => ∃ i : Nat, i ≤ n ∧ a = .int .i64 i ∧ Nw (w.alloc (.cells #[.int .u64 y1, .int .u64 y2] 51)) wr ∧ Hid (¬ (y1, y2) ∈ l.take i)) (fun _ a _ => n - (intOf a).toNat)
  case atStart => exact ⟨0, Nat.zero_le _, rfl, nwa, Lib.hid (by simp)⟩
  case round =>
    obtain ⟨i, hi, rfl, ⟨d, rfl⟩, HT⟩ := hrel
    by_cases hin : i < n
    · obtain ⟨ga, oa, rfl, hga, hca⟩ := HA.out.2 (by omega)
      haveI : In ga w := ⟨hga⟩
      obtain ⟨⟨x1, x2⟩, hx⟩ : ∃ x, l[i]? = some x := ⟨_, List.getElem?_eq_getElem (by have := HL.out; omega)⟩
      obtain ⟨g0, g1⟩ := pcells_get l i _ hx
      have a0 : w.cell? ⟨ga, oa + i * 2, none⟩ = some (.int .u64 x1) := hca _ _ g0
      have a1 : w.cell? ⟨ga, oa + i * 2 + 1, none⟩ = some (.int .u64 x2) := by have := hca _ _ g1; rw [← Nat.add_assoc] at this; exact this
      have HX := Lib.hid hx
      have i1 : (i : Int) < (n : Int) := by omega
      have i0 : (0 : Int) ≤ (i : Int) := by omega
      have i2 : i < 1000000 := by have := HN.out; omega
      have HIN := Lib.hid hin
      clear hx g0 g1 hca hin hi
      by_cases heq : y1 = x1 ∧ y2 = x2
      · obtain ⟨rfl, rfl⟩ := heq
        go_upto_region 4 with (fail)
        go_region
        go_wp2
        go_ret
        refine ⟨⟨_, rfl, ?_⟩, nwa⟩
        rw [decide_eq_true (List.mem_of_getElem? HX.out)]; simp
      · have e0 : (decide (y1 = x1) && decide (y2 = x2)) = false := by
          cases h1 : (decide (y1 = x1) && decide (y2 = x2)) with
          | false => rfl
          | true => exfalso; simp at h1; exact heq h1
        have HT2 := Lib.hid (show ¬ (y1, y2) ∈ l.take (i + 1) by
          obtain ⟨p, e⟩ := List.getElem?_eq_some_iff.1 HX.out
          rw [List.take_succ_eq_append_getElem p, e, List.mem_append]
          rintro (h | h)
          · exact HT.out h
          · simp at h; exact heq h)
        go_upto_region 4 with (fail)
        go_region
        go_wp2
        exact ⟨⟨i + 1, by have := HIN.out; omega, by go_num, nwa, HT2⟩, by have := HIN.out; simp [intOf]; omega⟩
    · have ei : i = n := by omega
      subst ei
      have hf : ¬ (y1, y2) ∈ l := by have h := HT.out; rw [List.take_of_length_le (by have := HL.out; omega)] at h; exact h
      have HF := Lib.hid hf
      clear hf
      go_wp2_with fail
      go_ret
      refine ⟨⟨_, rfl, ?_⟩, nwa⟩
      rw [decide_eq_false HF.out]; simp
set_option maxHeartbeats 1000000 in
theorem conP_any (A : Option Addr) (n c : Nat) (y1 y2 : Int) (l : List (Int × Int)) (w : World) (ha : Rd w 2 A n (pcells l)) (hn : n ≤ 1000000) :
    Calls Tryz.prog 50 #[.slice A n c, .agg #[.int .u64 y1, .int .u64 y2]] w fun e w' => e = .returned (.bool (decide ((y1, y2) ∈ l))) ∧ Nw w w' := by
  have HH := Lib.hid (fun W (hW : Nw w W) => ixP_any A n c y1 y2 l W (ha.nw hW) hn)
  clear ha hn
  obtain ⟨b, hb⟩ : ∃ b, b = decide ((y1, y2) ∈ l) := ⟨_, rfl⟩
  rw [← hb] at HH ⊢
  clear hb
  go_enter Tryz.func50, Tryz.ntmps50
  go_wp2_with fail
  refine (HH.out _ nwa).mono ?_
  rintro e W8 ⟨⟨r, rfl, hr⟩, hn8⟩
  have h8 : Nw w W8 := Nw.trans (nwa) hn8
  go_wp2
  go_ret
  refine ⟨?_, h8⟩
  first | rfl | rw [hr] | rw [show decide (r ≥ 0) = b from hr]
end Go.Proofs.YtkikdpdainmlcaaGreat
