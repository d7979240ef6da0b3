import Derived.Test.YtdhinclpmmpkhaaE
import Derived.Test.YtdhinclpmmpkhaaNorm
namespace Go.Proofs.Ytdhinclpmmpkhaa
open Go.RowKit Go.Xt
def cells (l : List (Int × Int)) : List Value := l.flatMap fun x => [.int .u64 x.1, .int .u64 x.2]
theorem cells_append (a b : List (Int × Int)) : cells (a ++ b) = cells a ++ cells b := List.flatMap_append
theorem cells_len (l : List (Int × Int)) : (cells l).length = l.length * 2 := by
  induction l with
  | nil => rfl
  | cons x l ih => simp [cells] at ih ⊢; omega
theorem cells_get : ∀ (l : List (Int × Int)) (i : Nat) (x : Int × Int), l[i]? = some x → (cells l)[i * 2]? = some (.int .u64 x.1) ∧ (cells l)[i * 2 + 1]? = some (.int .u64 x.2)
  | [], i, x, h => by simp at h
  | y :: l, 0, x, h => by simp at h; subst h; exact ⟨rfl, rfl⟩
  | y :: l, i + 1, x, h => by
    have := cells_get l i x (by simpa using h)
    rw [show (i + 1) * 2 = i * 2 + 1 + 1 by omega]
    exact this
theorem cells_one (l : List (Int × Int)) : ∀ u ∈ cells l, u.oneCell' = true := by
  intro u hu
  simp only [cells, List.mem_flatMap, List.mem_cons, List.not_mem_nil, or_false] at hu
  obtain ⟨x, _, rfl | rfl⟩ := hu <;> rfl
theorem spanInfo : (Try.prog.info? 24).map (fun i => (i.zero, i.size, i.bytes)) = some (some (.agg #[.int .u64 0, .int .u64 0]), 2, 16) := by kernel_rfl
/-- A row of the call's own that holds l. -/
def Own (w : World) (base : Nat) (v : Value) (l : List (Int × Int)) : Prop := w.ownsRow base 24 2 v l.length (cells l)
theorem Own.form {w : World} {base : Nat} {v : Value} {l : List (Int × Int)} (h : Own w base v l) : ∃ A c, v = .slice A l.length c ∧ Sp w A l.length l := by
  rcases h.2 with ⟨rfl, h0⟩ | ⟨g, cap, cur, rfl, hb, hg, hn, hm, hcs, ht⟩
  · exact ⟨none, 0, by rw [h0], rfl, fun hp => absurd hp (by omega)⟩
  · refine ⟨_, cap, rfl, rfl, fun _ => ⟨g, 0, rfl, (Array.getElem?_eq_some_iff.1 hg).1, fun i x hx => ?_⟩⟩
    have hi : i < l.length := (List.getElem?_eq_some_iff.1 hx).1
    obtain ⟨c0, c1⟩ := cells_get l i x hx
    have k0 := World.ownsRow.cellAt h (i * 2) (by omega)
    have k1 := World.ownsRow.cellAt h (i * 2 + 1) (by omega)
    rw [c0] at k0; rw [c1] at k1
    simp only [Nat.zero_add]
    exact ⟨k0, k1⟩
theorem Sp.ext {w : World} {A : Option Addr} {n : Nat} {l : List (Int × Int)} (h : Sp w A n l) (d : World) : Sp (w.ext none d) A n l :=
  ⟨h.1, fun hn => by
    obtain ⟨b, o, rfl, hb, hc⟩ := h.2 hn
    haveI : In b w := ⟨hb⟩
    refine ⟨b, o, rfl, In.lt, fun i x hx => ?_⟩
    rw [cell_ext, cell_ext]
    exact hc i x hx⟩
theorem Sp.nw {w w' : World} {A : Option Addr} {n : Nat} {l : List (Int × Int)} (h : Sp w A n l) (hw : Nw w w') : Sp w' A n l := by
  obtain ⟨d, rfl⟩ := hw; exact h.ext d
set_option maxHeartbeats 400000 in
theorem all_any (A : Option Addr) (n c : Nat) (l : List (Int × Int)) (w : World) (hn : n ≤ 9223372036854775807) (hl : Sp w A n l) :
    Calls Try.prog 40 #[.slice A n c] w fun e w' => e = .returned (.bool (Ok l)) ∧ Nw w w' := by
  go_enter Try.func40, Try.ntmps40
  go_wp2
  go_loopw [3] (fun t wr => ∃ k : Nat, k ≤ n ∧ t = .int .i64 k ∧ Ok (l.take k) = true ∧ Nw w wr) (fun t _ => n - (intOf t).toNat)
  case atStart => exact ⟨0, Nat.zero_le _, rfl, rfl, Nw.refl _⟩
  case round =>
    obtain ⟨k, hk, rfl, hok, d, rfl⟩ := hrel
    by_cases hlt : k < n
    · obtain ⟨b, o, lo, hi, rfl, hb, hx, c0, c1⟩ := hl.get hlt
      have Hx := Lib.hid hx
      have Hok := Lib.hid hok
      clear hx hok
      by_cases hbad : hi < lo
      · go_wp2
        (refine wp_region_nw (by kernel_rfl) (by kernel_rfl) ?_; (repeat (go_big_quiet_step (fail))); refine wpQuiet_nil ?_; intro _ hreg; obtain ⟨dW, rfl⟩ : Nw _ _ := hreg)
        go_wp2
        go_ret
        exact ⟨ret_bool (Ok_bad Hx.out (by simp; omega)).symm, (by repeat (first | exact Xt.Nw.refl _ | refine Xt.Nw.drew ?_ | refine Xt.Nw.drewN ?_ _ | refine Xt.Nw.alloc ?_ _ | refine Xt.Nw.joined ?_ | refine Xt.Nw.drewd ?_ | refine Xt.Nw.drewdN ?_ | refine Xt.Nw.ext ?_ | refine Xt.Nw.ext_some ?_ (by assumption) | refine Xt.Nw.setCell ?_ (by simp [go_sem] <;> omega) _))⟩
      · go_wp2
        (refine wp_region_nw (by kernel_rfl) (by kernel_rfl) ?_; (repeat (go_big_quiet_step (fail))); refine wpQuiet_nil ?_; intro _ hreg; obtain ⟨dW, rfl⟩ : Nw _ _ := hreg)
        go_wp2
        refine ⟨⟨k + 1, by omega, by go_num, ?_, (by repeat (first | exact Xt.Nw.refl _ | refine Xt.Nw.drew ?_ | refine Xt.Nw.drewN ?_ _ | refine Xt.Nw.alloc ?_ _ | refine Xt.Nw.joined ?_ | refine Xt.Nw.drewd ?_ | refine Xt.Nw.drewdN ?_ | refine Xt.Nw.ext ?_ | refine Xt.Nw.ext_some ?_ (by assumption) | refine Xt.Nw.setCell ?_ (by simp [go_sem] <;> omega) _))⟩, by simp [intOf]; omega⟩
        rw [Ok_snoc Hx.out, Hok.out]
        simp; omega
    · have hkn : l.take k = l := List.take_of_length_le (by have := hl.1; omega)
      rw [hkn] at hok
      have Hok := Lib.hid hok
      clear hok hkn
      go_wp2
      go_ret
      exact ⟨ret_bool Hok.out.symm, (by repeat (first | exact Xt.Nw.refl _ | refine Xt.Nw.drew ?_ | refine Xt.Nw.drewN ?_ _ | refine Xt.Nw.alloc ?_ _ | refine Xt.Nw.joined ?_ | refine Xt.Nw.drewd ?_ | refine Xt.Nw.drewdN ?_ | refine Xt.Nw.ext ?_ | refine Xt.Nw.ext_some ?_ (by assumption) | refine Xt.Nw.setCell ?_ (by simp [go_sem] <;> omega) _))⟩
end Go.Proofs.Ytdhinclpmmpkhaa
