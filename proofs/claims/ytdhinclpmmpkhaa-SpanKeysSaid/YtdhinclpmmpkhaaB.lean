import Derived.Test.YtdhinclpmmpkhaaA
namespace Go.Proofs.Ytdhinclpmmpkhaa
open Go.RowKit Go.Xt
def Ok (l : List (Int × Int)) : Bool := l.all fun s => decide (s.1 ≤ s.2)
def Sp (w : World) (A : Option Addr) (n : Nat) (l : List (Int × Int)) : Prop :=
  l.length = n ∧ (0 < n → ∃ b o, A = some ⟨b, o, none⟩ ∧ b < w.heap.size ∧ ∀ i x, l[i]? = some x → w.cell? ⟨b, o + i * 2, none⟩ = some (.int .u64 x.1) ∧ w.cell? ⟨b, o + i * 2 + 1, none⟩ = some (.int .u64 x.2))
theorem Sp.get {w : World} {A : Option Addr} {n k : Nat} {l : List (Int × Int)} (h : Sp w A n l) (hk : k < n) :
    ∃ b o lo hi, A = some ⟨b, o, none⟩ ∧ In b w ∧ l[k]? = some (lo, hi) ∧ w.cell? ⟨b, o + k * 2, none⟩ = some (.int .u64 lo) ∧ w.cell? ⟨b, o + k * 2 + 1, none⟩ = some (.int .u64 hi) := by
  obtain ⟨hl, h2⟩ := h
  obtain ⟨b, o, rfl, hb, hc⟩ := h2 (by omega)
  have hkl : k < l.length := by omega
  obtain ⟨c0, c1⟩ := hc k l[k] (List.getElem?_eq_getElem hkl)
  exact ⟨b, o, l[k].1, l[k].2, rfl, ⟨hb⟩, List.getElem?_eq_getElem hkl, c0, c1⟩
theorem chk_ne {lo hi : Int} (h : (chk lo hi != 0) = true) : ¬ lo ≤ hi := by unfold chk at h; split at h <;> simp_all <;> omega
theorem chk_eq {lo hi : Int} (h : (chk lo hi != 0) = false) : lo ≤ hi := by unfold chk at h; split at h <;> simp_all <;> omega
theorem Ok_snoc {l : List (Int × Int)} {k : Nat} {x : Int × Int} (h : l[k]? = some x) : Ok (l.take (k + 1)) = (Ok (l.take k) && decide (x.1 ≤ x.2)) := by
  obtain ⟨hk, rfl⟩ := List.getElem?_eq_some_iff.1 h
  rw [List.take_succ_eq_append_getElem hk, Ok, Ok, List.all_append]
  simp only [List.all_cons, List.all_nil, Bool.and_true]
theorem Ok_bad {l : List (Int × Int)} {k : Nat} {x : Int × Int} (h : l[k]? = some x) (hb : ¬ x.1 ≤ x.2) : Ok l = false := by
  rw [Ok, List.all_eq_false]
  exact ⟨x, List.mem_of_getElem? h, by simpa using hb⟩
set_option maxHeartbeats 400000 in
theorem valid_any (A : Option Addr) (n c : Nat) (l : List (Int × Int)) (w : World) (hn : n ≤ 9223372036854775807) (hl : Sp w A n l) :
    Calls Try.prog 35 #[.slice A n c] w fun e w' => e = .returned (.bool (Ok l)) ∧ Nw w w' := by
  go_enter Try.func35, Try.ntmps35
  go_wp2
  go_loopw [7] (fun t wr => ∃ k : Nat, k ≤ n ∧ t = .int .i64 k ∧ Ok (l.take k) = true ∧ Nw w wr) (fun t _ => n - (intOf t).toNat)
  case atStart => exact ⟨0, Nat.zero_le _, rfl, rfl, Nw.refl _⟩
  case round =>
    obtain ⟨k, hk, rfl, hok, d, rfl⟩ := hrel
    by_cases hlt : k < n
    · obtain ⟨b, o, lo, hi, rfl, hb, hx, c0, c1⟩ := hl.get hlt
      have Hx := Lib.hid hx
      have Hok := Lib.hid hok
      clear hx hok
      go_wp2_with (go_at_call 14; refine (check_any _ _ _).mono ?_; rintro e w' ⟨rfl, d, rfl⟩)
      · go_ret
        exact ⟨ret_bool (Ok_bad Hx.out (chk_ne (by assumption))).symm, (by repeat (first | exact Xt.Nw.refl _ | refine Xt.Nw.drew ?_ | refine Xt.Nw.drewN ?_ _ | refine Xt.Nw.alloc ?_ _ | refine Xt.Nw.joined ?_ | refine Xt.Nw.drewd ?_ | refine Xt.Nw.drewdN ?_ | refine Xt.Nw.ext ?_ | refine Xt.Nw.ext_some ?_ (by assumption) | refine Xt.Nw.setCell ?_ (by simp [go_sem] <;> omega) _))⟩
      · refine ⟨⟨k + 1, by omega, by go_num, ?_, (by repeat (first | exact Xt.Nw.refl _ | refine Xt.Nw.drew ?_ | refine Xt.Nw.drewN ?_ _ | refine Xt.Nw.alloc ?_ _ | refine Xt.Nw.joined ?_ | refine Xt.Nw.drewd ?_ | refine Xt.Nw.drewdN ?_ | refine Xt.Nw.ext ?_ | refine Xt.Nw.ext_some ?_ (by assumption) | refine Xt.Nw.setCell ?_ (by simp [go_sem] <;> omega) _))⟩, by simp [intOf]; omega⟩
        rw [Ok_snoc Hx.out, Hok.out]
        simpa using chk_eq (by assumption)
    · have Hok := Lib.hid hok
      clear hok
      have hkn : l.take k = l := List.take_of_length_le (by have := hl.1; omega)
      rw [hkn] at Hok
      clear hkn
      go_wp2
      go_ret
      exact ⟨ret_bool Hok.out.symm, (by repeat (first | exact Xt.Nw.refl _ | refine Xt.Nw.drew ?_ | refine Xt.Nw.drewN ?_ _ | refine Xt.Nw.alloc ?_ _ | refine Xt.Nw.joined ?_ | refine Xt.Nw.drewd ?_ | refine Xt.Nw.drewdN ?_ | refine Xt.Nw.ext ?_ | refine Xt.Nw.ext_some ?_ (by assumption) | refine Xt.Nw.setCell ?_ (by simp [go_sem] <;> omega) _))⟩
end Go.Proofs.Ytdhinclpmmpkhaa
