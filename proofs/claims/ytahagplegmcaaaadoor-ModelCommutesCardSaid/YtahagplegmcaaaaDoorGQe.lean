import Derived.Test.YtahagplegmcaaaaDoorGQd
set_option linter.unusedVariables false
set_option linter.unusedSimpArgs false
set_option linter.unnecessarySimpa false
namespace Go.Proofs.YtahagplegmcaaaaDoor
open Go.RowKit Go.Xt
/-! The iterators: end, from, after; keys. -/
/-- Nothing more is left. -/
def Th.fin (x : Th) : Th := { x with mo := false, lo := 0, hi := 0 }
/-- What is left from a key on. -/
def Th.from_ (x : Th) (k : Int) : Th := if x.mo = true ∧ k ≤ x.hi then { x with lo := max x.lo k } else x.fin
/-- What is left behind a key. -/
def Th.after (x : Th) (k : Int) : Th := if k = 18446744073709551615 then x.fin else x.from_ (k + 1)
theorem keys_any (k a b c d e f : Int) (w : World) : Calls Tryd.prog 59 #[op7 k a b c d e f] w fun e w' => e = .returned (spV a b) ∧ Nw w w' := by
  unfold spV
  go_enter Tryd.func59, Tryd.ntmps59
  go_wp2
  refine bodyPost_ret (v := .agg #[.int .u64 a, .int .u64 b]) ?_ rfl ⟨rfl, (by repeat (first | exact Xt.Nw.refl _ | refine Xt.Nw.drew ?_ | refine Xt.Nw.drewN ?_ _ | refine Xt.Nw.alloc ?_ _ | refine Xt.Nw.joined ?_ | refine Xt.Nw.drewd ?_ | refine Xt.Nw.drewdN ?_ | refine Xt.Nw.ext ?_ | refine Xt.Nw.ext_some ?_ (by assumption) | refine Xt.Nw.setCell ?_ (by simp [go_sem] <;> omega) _))⟩
  simp [results, Tryd.results59, go_sem, *]
theorem ThR.fin {W : World} {gt : Nat} {th : List Th} (h : ThR W gt th) {k : Nat} {x : Th} (hk : th[k]? = some x) :
    ThR (((W.setCell ⟨gt, k * 5 + 1, none⟩ (.bool false)).setCell ⟨gt, k * 5 + 2, none⟩ (.int .u64 0)).setCell ⟨gt, k * 5 + 3, none⟩ (.int .u64 0)) gt (th.set k x.fin) := by
  have h3 := ((h.mo hk false).lo (set_at hk _) 0).hi (set_at (set_at hk _) _) 0
  rw [List.set_set, List.set_set] at h3
  exact h3
set_option maxRecDepth 20000 in
set_option maxHeartbeats 4000000 in
theorem end_any (w : World) (gt : Nat) (th : List Th) (h : ThR w gt th) (k : Nat) (x : Th) (hk : th[k]? = some x) :
    Calls Tryd.prog 63 #[.pointer (some ⟨gt, k * 5, none⟩)] w fun e w' => e = .returned (.tuple #[]) ∧ ThR w' gt (th.set k x.fin) ∧ Chg [gt] w w' := by
  obtain ⟨c0, c1, c2, c3, c4⟩ := h.cells hk
  have z1 : w.frozen? ⟨gt, k * 5 + 1, none⟩ = false := ThR.frozen h _
  have z2 : w.frozen? ⟨gt, k * 5 + 2, none⟩ = false := ThR.frozen h _
  have z3 : w.frozen? ⟨gt, k * 5 + 3, none⟩ = false := ThR.frozen h _
  haveI : In gt w := ⟨h.lt hk⟩
  have HF := Lib.hid (h.fin hk)
  clear h hk
  go_enter Tryd.func63, Tryd.ntmps63
  go_wp2
  go_end0
  exact ⟨rfl, HF.out, (((Chg.set1 w gt _ _).set2 _ _).set2 _ _)⟩
set_option maxRecDepth 20000 in
set_option maxHeartbeats 4000000 in
theorem from_any (w : World) (gt : Nat) (th : List Th) (h : ThR w gt th) (k : Nat) (x : Th) (hk : th[k]? = some x) (key : Int) :
    Calls Tryd.prog 65 #[.pointer (some ⟨gt, k * 5, none⟩), .int .u64 key] w fun e w' => e = .returned (.tuple #[]) ∧ ThR w' gt (th.set k (x.from_ key)) ∧ Chg [gt] w w' := by
  obtain ⟨c0, c1, c2, c3, c4⟩ := h.cells hk
  have z2 : w.frozen? ⟨gt, k * 5 + 2, none⟩ = false := ThR.frozen h _
  haveI : In gt w := ⟨h.lt hk⟩
  have HE := Lib.hid (end_any w gt th h k x hk)
  have HL := Lib.hid (fun v => h.lo hk v)
  obtain ⟨op, mo, lo, hi, se⟩ := x
  simp only at c0 c1 c2 c3 c4
  cases mo with
  | false =>
    have e1 : Th.from_ ⟨op, false, lo, hi, se⟩ key = Th.fin ⟨op, false, lo, hi, se⟩ := by simp [Th.from_]
    rw [e1]
    clear h hk e1
    go_enter Tryd.func65, Tryd.ntmps65
    go_wp2_with fail
    refine HE.out.mono ?_
    rintro e w' ⟨rfl, h1, h2⟩
    have H1 := Lib.hid h1
    have H2 := Lib.hid h2
    clear h1 h2
    go_wp2
    refine bodyPost_ret (results_none rfl _ _ _) rfl ⟨rfl, H1.out, H2.out⟩
  | true =>
    by_cases hlt : hi < key
    · have d1 : decide (hi < key) = true := by simpa using hlt
      have e1 : Th.from_ ⟨op, true, lo, hi, se⟩ key = Th.fin ⟨op, true, lo, hi, se⟩ := by
        unfold Th.from_; rw [if_neg]; simp; omega
      rw [e1]
      clear h hk e1
      go_enter Tryd.func65, Tryd.ntmps65
      go_wp2_with fail
      refine HE.out.mono ?_
      rintro e w' ⟨rfl, h1, h2⟩
      have H1 := Lib.hid h1
      have H2 := Lib.hid h2
      clear h1 h2
      go_wp2
      refine bodyPost_ret (results_none rfl _ _ _) rfl ⟨rfl, H1.out, H2.out⟩
    · have d1 : decide (hi < key) = false := by simpa using hlt
      have e1 : Th.from_ ⟨op, true, lo, hi, se⟩ key = ⟨op, true, max lo key, hi, se⟩ := by
        unfold Th.from_; rw [if_pos]; simp; omega
      rw [e1]
      clear h hk e1
      go_enter Tryd.func65, Tryd.ntmps65
      go_wp2
      · have e2 : max lo key = key := by omega
        rw [e2]
        go_end0
        exact ⟨rfl, HL.out _, Chg.set1 w gt _ _⟩
      · have e2 : max lo key = lo := by omega
        rw [e2]
        go_end0
        exact ⟨rfl, HL.out _, Chg.set1 w gt _ _⟩
set_option maxRecDepth 20000 in
set_option maxHeartbeats 4000000 in
theorem after_any (w : World) (gt : Nat) (th : List Th) (h : ThR w gt th) (k : Nat) (x : Th) (hk : th[k]? = some x) (key : Int) (hkey : 0 ≤ key ∧ key < 18446744073709551616) :
    Calls Tryd.prog 64 #[.pointer (some ⟨gt, k * 5, none⟩), .int .u64 key] w fun e w' => e = .returned (.tuple #[]) ∧ ThR w' gt (th.set k (x.after key)) ∧ Chg [gt] w w' := by
  haveI : In gt w := ⟨h.lt hk⟩
  have HE := Lib.hid (end_any w gt th h k x hk)
  have HF := Lib.hid (from_any w gt th h k x hk (key + 1))
  by_cases hq : key = 18446744073709551615
  · have e1 : x.after key = x.fin := by unfold Th.after; rw [if_pos hq]
    rw [e1]
    subst hq
    clear h hk e1
    go_enter Tryd.func64, Tryd.ntmps64
    go_wp2_with fail
    refine HE.out.mono ?_
    rintro e w' ⟨rfl, h1, h2⟩
    have H1 := Lib.hid h1
    have H2 := Lib.hid h2
    clear h1 h2
    go_wp2
    refine bodyPost_ret (results_none rfl _ _ _) rfl ⟨rfl, H1.out, H2.out⟩
  · have e1 : x.after key = x.from_ (key + 1) := by unfold Th.after; rw [if_neg hq]
    rw [e1]
    have d1 : (key == 18446744073709551615) = false := by simpa using hq
    have w1 : IntKind.u64.wrap (key + 1) = key + 1 := by rw [IntKind.wrap_u64]; omega
    clear h hk e1 hkey
    go_enter Tryd.func64, Tryd.ntmps64
    go_wp2_with fail
    refine HF.out.mono ?_
    rintro e w' ⟨rfl, h1, h2⟩
    have H1 := Lib.hid h1
    have H2 := Lib.hid h2
    clear h1 h2
    go_wp2
    go_end0
    exact ⟨rfl, H1.out, H2.out⟩
end Go.Proofs.YtahagplegmcaaaaDoor
