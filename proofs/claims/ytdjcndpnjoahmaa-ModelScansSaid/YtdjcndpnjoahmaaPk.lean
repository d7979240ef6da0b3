import Derived.Test.YtdjcndpnjoahmaaPj
namespace Go.Proofs.Ytdjcndpnjoahmaa
open Go.RowKit Go.Xt
/-! The ordered map at any pairs: ends, DeleteRange, Next. -/
def spV (lo hi : Int) : Value := .agg #[.int .u64 lo, .int .u64 hi]
theorem spcheck_ok (lo hi : Int) (h : lo ≤ hi) (w : World) :
    Calls Try.prog 40 #[spV lo hi] w fun e w' => e = .returned (.int .i64 0) ∧ Nw w w' := by
  have h2 : ¬ hi < lo := by omega
  unfold spV
  go_enter Try.func40, Try.ntmps40
  go_wp2
  go_ret
  exact ⟨rfl, (by repeat (first | exact Xt.Nw.refl _ | refine Xt.Nw.drew ?_ | refine Xt.Nw.drewN ?_ _ | refine Xt.Nw.alloc ?_ _ | refine Xt.Nw.joined ?_ | refine Xt.Nw.drewd ?_ | refine Xt.Nw.drewdN ?_ | refine Xt.Nw.ext ?_ | refine Xt.Nw.ext_some ?_ (by assumption) | refine Xt.Nw.setCell ?_ (by simp [go_sem] <;> omega) _))⟩
set_option maxRecDepth 20000 in
set_option maxHeartbeats 4000000 in
theorem ends_om {w : World} {gp : Nat} {v : Value} {l : List (Int × Int)} (h : OM w gp v l) (hn : l.length ≤ 1000000) (lo hi : Int) (hlh : lo ≤ hi) :
    Calls Try.prog 60 #[.pointer (some ⟨gp, 0, none⟩), spV lo hi] w fun e w' => e = .returned (.tuple #[.int .i64 (pos lo l), .int .i64 (posTo hi l), .int .i64 0]) ∧ Nw w w' := by
  haveI : In gp w := ⟨h.lt⟩
  have HF := Lib.hid (fun W (hw : Nw w W) k => find_om (h.nw hw) hn k)
  have HC := Lib.hid (spcheck_ok lo hi hlh)
  unfold spV at HC ⊢
  have hp := posTo_le hi l
  unfold posTo at hp ⊢
  have HB := Lib.hid (HF.out w (Nw.refl w) hi)
  have HF2 := Lib.hid (fun W (hw : Nw w W) => HF.out W hw hi)
  obtain ⟨P, hP⟩ : ∃ P, P = pos hi l := ⟨_, rfl⟩
  rw [← hP] at HF2 hp ⊢
  cases hb : hasK hi l with
  | true =>
    rw [hb] at HF2
    have hw1 : IntKind.i64.wrap ((P : Int) + 1) = ((P + 1 : Nat) : Int) := by rw [hb] at hp; simp at hp; rw [IntKind.wrap_i64]; omega
    have e1 : (if true = true then P + 1 else P) = P + 1 := rfl
    rw [e1]
    clear h hlh hb hP HB e1 hp
    go_enter Try.func60, Try.ntmps60
    go_wp2_with fail
    refine (HC.out _).mono ?_
    rintro e w2 ⟨rfl, d2, rfl⟩
    go_wp2_with fail
    refine (HF.out _ ((by repeat (first | exact Xt.Nw.refl _ | refine Xt.Nw.drew ?_ | refine Xt.Nw.drewN ?_ _ | refine Xt.Nw.alloc ?_ _ | refine Xt.Nw.joined ?_ | refine Xt.Nw.drewd ?_ | refine Xt.Nw.drewdN ?_ | refine Xt.Nw.ext ?_ | refine Xt.Nw.ext_some ?_ (by assumption) | refine Xt.Nw.setCell ?_ (by simp [go_sem] <;> omega) _))) lo).mono ?_
    rintro e w3 ⟨rfl, d3, rfl⟩
    go_wp2_with fail
    refine (HF2.out _ ((by repeat (first | exact Xt.Nw.refl _ | refine Xt.Nw.drew ?_ | refine Xt.Nw.drewN ?_ _ | refine Xt.Nw.alloc ?_ _ | refine Xt.Nw.joined ?_ | refine Xt.Nw.drewd ?_ | refine Xt.Nw.drewdN ?_ | refine Xt.Nw.ext ?_ | refine Xt.Nw.ext_some ?_ (by assumption) | refine Xt.Nw.setCell ?_ (by simp [go_sem] <;> omega) _)))).mono ?_
    rintro e w4 ⟨rfl, d4, rfl⟩
    go_wp2
    refine bodyPost_ret (v := .tuple #[.int .i64 (pos lo l), .int .i64 (P + 1 : Nat), .int .i64 0]) ?_ rfl ⟨rfl, (by repeat (first | exact Xt.Nw.refl _ | refine Xt.Nw.drew ?_ | refine Xt.Nw.drewN ?_ _ | refine Xt.Nw.alloc ?_ _ | refine Xt.Nw.joined ?_ | refine Xt.Nw.drewd ?_ | refine Xt.Nw.drewdN ?_ | refine Xt.Nw.ext ?_ | refine Xt.Nw.ext_some ?_ (by assumption) | refine Xt.Nw.setCell ?_ (by simp [go_sem] <;> omega) _))⟩
    simp [results, Try.results60, go_sem]
  | false =>
    rw [hb] at HF2
    have e1 : (if false = true then P + 1 else P) = P := rfl
    rw [e1]
    clear h hlh hb hP HB e1 hp
    go_enter Try.func60, Try.ntmps60
    go_wp2_with fail
    refine (HC.out _).mono ?_
    rintro e w2 ⟨rfl, d2, rfl⟩
    go_wp2_with fail
    refine (HF.out _ ((by repeat (first | exact Xt.Nw.refl _ | refine Xt.Nw.drew ?_ | refine Xt.Nw.drewN ?_ _ | refine Xt.Nw.alloc ?_ _ | refine Xt.Nw.joined ?_ | refine Xt.Nw.drewd ?_ | refine Xt.Nw.drewdN ?_ | refine Xt.Nw.ext ?_ | refine Xt.Nw.ext_some ?_ (by assumption) | refine Xt.Nw.setCell ?_ (by simp [go_sem] <;> omega) _))) lo).mono ?_
    rintro e w3 ⟨rfl, d3, rfl⟩
    go_wp2_with fail
    refine (HF2.out _ ((by repeat (first | exact Xt.Nw.refl _ | refine Xt.Nw.drew ?_ | refine Xt.Nw.drewN ?_ _ | refine Xt.Nw.alloc ?_ _ | refine Xt.Nw.joined ?_ | refine Xt.Nw.drewd ?_ | refine Xt.Nw.drewdN ?_ | refine Xt.Nw.ext ?_ | refine Xt.Nw.ext_some ?_ (by assumption) | refine Xt.Nw.setCell ?_ (by simp [go_sem] <;> omega) _)))).mono ?_
    rintro e w4 ⟨rfl, d4, rfl⟩
    go_wp2
    refine bodyPost_ret (v := .tuple #[.int .i64 (pos lo l), .int .i64 P, .int .i64 0]) ?_ rfl ⟨rfl, (by repeat (first | exact Xt.Nw.refl _ | refine Xt.Nw.drew ?_ | refine Xt.Nw.drewN ?_ _ | refine Xt.Nw.alloc ?_ _ | refine Xt.Nw.joined ?_ | refine Xt.Nw.drewd ?_ | refine Xt.Nw.drewdN ?_ | refine Xt.Nw.ext ?_ | refine Xt.Nw.ext_some ?_ (by assumption) | refine Xt.Nw.setCell ?_ (by simp [go_sem] <;> omega) _))⟩
    simp [results, Try.results60, go_sem]
theorem outR_sub (lo hi : Int) (l : List (Int × Int)) : (outR lo hi l).Sublist l := List.filter_sublist
theorem inR_len {lo hi : Int} (hlh : lo ≤ hi) {l : List (Int × Int)} (ha : asc l) : (inR lo hi l).length = posTo hi l - pos lo l := by
  rw [← (split_range hlh ha).1, List.length_drop, List.length_take, Nat.min_eq_left (posTo_le hi l)]
theorem outR_len {lo hi : Int} (hlh : lo ≤ hi) {l : List (Int × Int)} (ha : asc l) : (outR lo hi l).length = pos lo l + (l.length - posTo hi l) := by
  rw [← (split_range hlh ha).2, List.length_append, List.length_drop, List.length_take, Nat.min_eq_left (pos_le lo l)]
set_option maxRecDepth 20000 in
set_option maxHeartbeats 4000000 in
theorem delr_om {w : World} {gp : Nat} {v : Value} {l : List (Int × Int)} (h : OM w gp v l) (hn : l.length ≤ 1000000) (lo hi : Int) (hlh : lo ≤ hi) :
    Calls Try.prog 49 #[.pointer (some ⟨gp, 0, none⟩), spV lo hi] w fun e w' => e = .returned (.tuple #[.int .i64 (inR lo hi l).length, .int .i64 0]) ∧ ∃ v', Upd w gp v (outR lo hi l) v' w' := by
  haveI : In gp w := ⟨h.lt⟩
  have HE := Lib.hid (fun W (hw : Nw w W) => ends_om (h.nw hw) hn lo hi hlh)
  have HIL := Lib.hid (inR_len hlh h.asc)
  have HOL := Lib.hid (outR_len hlh h.asc)
  have HSP := Lib.hid (split_range hlh h.asc).2
  have hle := pos_le_to hlh h.asc
  have hto := posTo_le hi l
  rw [HIL.out]
  obtain ⟨i, hi'⟩ : ∃ i, i = pos lo l := ⟨_, rfl⟩
  obtain ⟨j, hj'⟩ : ∃ j, j = posTo hi l := ⟨_, rfl⟩
  simp only [← hi', ← hj'] at HE HIL HOL HSP hle hto ⊢
  have q1 : IntKind.i64.wrap ((j : Int) - (i : Int)) = ((j - i : Nat) : Int) := by rw [IntKind.wrap_i64]; omega
  have HH := Lib.hid h
  have HLE := Lib.hid hle
  have HTO := Lib.hid hto
  unfold spV at HE ⊢
  clear h hlh hi' hj' hle hto
  go_enter Try.func49, Try.ntmps49
  go_wp2_with fail
  refine (HE.out _ ((by repeat (first | exact Xt.Nw.refl _ | refine Xt.Nw.drew ?_ | refine Xt.Nw.drewN ?_ _ | refine Xt.Nw.alloc ?_ _ | refine Xt.Nw.joined ?_ | refine Xt.Nw.drewd ?_ | refine Xt.Nw.drewdN ?_ | refine Xt.Nw.ext ?_ | refine Xt.Nw.ext_some ?_ (by assumption) | refine Xt.Nw.setCell ?_ (by simp [go_sem] <;> omega) _)))).mono ?_
  rintro e W2 ⟨rfl, hn2⟩
  have hn2 : Nw w W2 := Nw.trans (by exact (by repeat (first | exact Xt.Nw.refl _ | refine Xt.Nw.drew ?_ | refine Xt.Nw.drewN ?_ _ | refine Xt.Nw.alloc ?_ _ | refine Xt.Nw.joined ?_ | refine Xt.Nw.drewd ?_ | refine Xt.Nw.drewdN ?_ | refine Xt.Nw.ext ?_ | refine Xt.Nw.ext_some ?_ (by assumption) | refine Xt.Nw.setCell ?_ (by simp [go_sem] <;> omega) _))) hn2
  have h2 := HH.out.nw hn2
  have p2 := h2.p0
  haveI : In gp W2 := ⟨h2.lt⟩
  have H2 := Lib.hid h2
  have HN2 := Lib.hid hn2
  clear h2 hn2
  go_wp2_with fail
  refine (delete_any v l i j (i + (l.length - j)) W2 H2.out.row HLE.out HTO.out hn rfl).mono ?_
  rintro e W3 ⟨v', rfl, hown, hch, hvb⟩
  have hgp : gp ∉ v.ownBlock.toList := by rw [Option.mem_toList]; exact H2.out.ne
  have r3 := hch.cell H2.out.p0 hgp
  have z3 := (hch.frozen H2.out.lt hgp).trans H2.out.pz
  obtain ⟨A, n', c', hv'⟩ : ∃ A n' c', v' = .slice A n' c' := by
    rcases own_forms hown with ⟨rfl, _⟩ | ⟨g, c, rfl, _⟩
    · exact ⟨_, _, _, rfl⟩
    · exact ⟨_, _, _, rfl⟩
  have HU := Lib.hid (Upd.store (v := v) (w := W2) r3 z3 (by rw [HOL.out, ← HSP.out]; exact hown) (by rw [hvb]; exact H2.out.ne) (asc_sub H2.out.asc (outR_sub lo hi l)) hch (.inl hvb))
  subst hv'
  clear hown hch hgp hvb
  go_wp2
  refine bodyPost_ret (v := .tuple #[.int .i64 (j - i : Nat), .int .i64 0]) ?_ rfl ⟨rfl, _, HU.out.after HN2.out⟩
  simp [results, Try.results49, go_sem]
end Go.Proofs.Ytdjcndpnjoahmaa
