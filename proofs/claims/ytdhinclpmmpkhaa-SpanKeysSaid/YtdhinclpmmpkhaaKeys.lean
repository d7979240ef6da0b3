import Derived.Test.YtdhinclpmmpkhaaZ
import Derived.Deep.RegionLaw
namespace Go.Proofs.Ytdhinclpmmpkhaa
open Go.RowKit Go.Xt
theorem Own.nilcap' {w : World} {base : Nat} {v : Value} {l : List (Int × Int)} (h : Own w base v l) (A : Option Addr) (n c : Nat) (hv : v = .slice A n c) : A = none → c = 0 := by
  subst hv
  rintro rfl
  rcases h.2 with ⟨h1, _⟩ | ⟨g, cap, cur, h1, _⟩
  · injection h1
  · injection h1 with h1; cases h1
theorem step_app1 {P : Program} {ops : Array Oper} {o : Oper} {a : Act} {K : Act → World → Prop} {Q : Exit → Act → World → Prop} {E : Prop} (hgd : o.guard = none) (s x : Operand) (t : TypeId)
    (ho : o.op = .call { callee := .builtin .append, args := #[s, x], argTypes := #[t, t] })
    (e : TypeId) (z : Value) (size bytes : Nat) (ht : P.underlying t = some (.slice e)) (hi : (P.info? e).map (fun i => (i.zero, i.size, i.bytes)) = some (some z, size, bytes)) (hzs : z.cells.size = size) (hsz : 0 < size)
    (W0 w' : World) (hW : Nw W0 w') (v : Value) (n : Nat) (xs : List Value) (hs : a.eval s = v) (hown : w'.ownsRow W0.heap.size e size v n xs)
    (g m c : Nat) (te : TypeId) (news : List Value) (hx : a.eval x = .slice (some ⟨g, 0, none⟩) m c) (hg : g = w'.heap.size) (hl : news.length = m * size) (h1 : ∀ u ∈ news, u.oneCell' = true)
    (h63 : n + m ≤ maxLen) (hbytes : (n + m) * bytes ≤ 140737488355328)
    (h : ∀ v' d', (W0.ext none d').ownsRow W0.heap.size e size v' (n + m) (xs ++ news) → K (a.put o.dst v') (W0.ext none d')) :
    if Region.wanted o (yielded ops a.tmps) = true then Oper.wp P o a (w'.alloc (.cells news.toArray te)).drew K Q else E := by
  have hw : Region.wanted o (yielded ops a.tmps) = true := by simp [Region.wanted, hgd]
  rw [if_pos hw]
  obtain ⟨i, hi1, hz0, hz1, hz2⟩ := info_parts hi
  have hsz' := hW.grown.size
  refine wp_append_own _ s x t ho W0.heap.size e i z size bytes ht hi1 hz0 hz1 hz2 hzs hsz v n xs hs (own_nw hown ((Nw.refl _).alloc _).drew) ⟨g, 0, none⟩ m c news hx hl (fun j u h => new_cells hg news j u h) h1 h63 hbytes (by simp; omega) ?_
  intro v' w1 hown' hgrow _
  obtain ⟨d', rfl⟩ : Nw W0 w1 := ((hW.alloc _).drew).row hgrow fun k hk => (hown.lt k hk).1
  exact h v' d' hown'
set_option maxRecDepth 20000 in
set_option maxHeartbeats 12000000 in
theorem keys_any (key : Int) (A : Option Addr) (n c : Nat) (l : List (Int × Int)) (w : World) (hc : A = none → c = 0) (hn : n ≤ 9223372036854775807) (hl : Sp w A n l) (hb : Bd l) :
    Calls Try.prog 6 #[.slice A n c, .int .u64 key] w fun e w' => e = .returned (.bool true) ∧ Nw w w' := by
  have HL := Lib.hid hl
  have HC := Lib.hid hc
  have HB := Lib.hid hb
  have hv := fun w hl => bad_any A n c l w hn hl
  clear hl hb hc
  cases hg : (!Ok l || decide (60 < n)) with
  | true =>
    rw [hg] at hv
    have HV := Lib.hid hv
    clear hg hv
    go_enter Try.func6, Try.ntmps6
    go_wp2_with (first | (go_at_call 30; refine (HV.out _ (HL.out.nw (by repeat (first | exact Xt.Nw.refl _ | refine Xt.Nw.drew ?_ | refine Xt.Nw.drewN ?_ _ | refine Xt.Nw.alloc ?_ _ | refine Xt.Nw.joined ?_ | refine Xt.Nw.drewd ?_ | refine Xt.Nw.drewdN ?_ | refine Xt.Nw.ext ?_ | refine Xt.Nw.ext_some ?_ (by assumption) | refine Xt.Nw.setCell ?_ (by simp [go_sem] <;> omega) _)))).mono ?_; rintro e w' ⟨rfl, dW, rfl⟩) | (go_at_call 26; refine (known_any _).mono ?_; rintro e w' ⟨rfl, dW, rfl⟩))
    go_ret
    exact ⟨rfl, (by repeat (first | exact Xt.Nw.refl _ | refine Xt.Nw.drew ?_ | refine Xt.Nw.drewN ?_ _ | refine Xt.Nw.alloc ?_ _ | refine Xt.Nw.joined ?_ | refine Xt.Nw.drewd ?_ | refine Xt.Nw.drewdN ?_ | refine Xt.Nw.ext ?_ | refine Xt.Nw.ext_some ?_ (by assumption) | refine Xt.Nw.setCell ?_ (by simp [go_sem] <;> omega) _))⟩
  | false =>
    rw [hg] at hv
    have HV := Lib.hid hv
    clear hv
    have hg' : Ok l = true ∧ n ≤ 60 := by simp at hg; exact hg
    obtain ⟨hok, h60⟩ := hg'
    have HOK := Lib.hid hok
    have HVL := Lib.hid ((ok_iff l).1 hok)
    have HNF := Lib.hid (Nm.norm_spec l HVL.out).1
    have HBN := Lib.hid HB.out.norm
    clear hg hok
    have hnl : (Nm.norm l).length ≤ n := by have h1 := fold_len l []; have h2 := HL.out.1; simp at h1; show (l.foldl Nm.add []).length ≤ n; omega
    have hnd : decide (n < (Nm.norm l).length) = false := decide_eq_false_iff_not.2 (by omega)
    go_enter Try.func6, Try.ntmps6
    go_wp2_with (first | (go_at_call 30; refine (HV.out _ (HL.out.nw (by repeat (first | exact Xt.Nw.refl _ | refine Xt.Nw.drew ?_ | refine Xt.Nw.drewN ?_ _ | refine Xt.Nw.alloc ?_ _ | refine Xt.Nw.joined ?_ | refine Xt.Nw.drewd ?_ | refine Xt.Nw.drewdN ?_ | refine Xt.Nw.ext ?_ | refine Xt.Nw.ext_some ?_ (by assumption) | refine Xt.Nw.setCell ?_ (by simp [go_sem] <;> omega) _)))).mono ?_; rintro e w' ⟨rfl, dW, rfl⟩) | (go_at_call 27; refine (norm_ok _ _ _ l _ (by omega) HC.out (HL.out.nw (by repeat (first | exact Xt.Nw.refl _ | refine Xt.Nw.drew ?_ | refine Xt.Nw.drewN ?_ _ | refine Xt.Nw.alloc ?_ _ | refine Xt.Nw.joined ?_ | refine Xt.Nw.drewd ?_ | refine Xt.Nw.drewdN ?_ | refine Xt.Nw.ext ?_ | refine Xt.Nw.ext_some ?_ (by assumption) | refine Xt.Nw.setCell ?_ (by simp [go_sem] <;> omega) _))) HOK.out HB.out).mono ?_; rintro e w' ⟨Aa, ca, rfl, hspa, hnila, hfra, hca, dW, rfl⟩; have HA := Lib.hid hspa; have HNI := Lib.hid hnila; clear hspa hnila hfra hca))
    go_loopw [7] (fun t wr => ∃ k : Nat, k ≤ (Nm.norm l).length ∧ t = .int .i64 k ∧ Nw w wr ∧ Sp wr Aa (Nm.norm l).length (Nm.norm l) ∧ Sp wr A n l) (fun t _ => (Nm.norm l).length - (intOf t).toNat)
    case atStart => exact ⟨0, Nat.zero_le _, rfl, (by repeat (first | exact Xt.Nw.refl _ | refine Xt.Nw.drew ?_ | refine Xt.Nw.drewN ?_ _ | refine Xt.Nw.alloc ?_ _ | refine Xt.Nw.joined ?_ | refine Xt.Nw.drewd ?_ | refine Xt.Nw.drewdN ?_ | refine Xt.Nw.ext ?_ | refine Xt.Nw.ext_some ?_ (by assumption) | refine Xt.Nw.setCell ?_ (by simp [go_sem] <;> omega) _)), HA.out.nw (by repeat (first | exact Xt.Nw.refl _ | refine Xt.Nw.drew ?_ | refine Xt.Nw.drewN ?_ _ | refine Xt.Nw.alloc ?_ _ | refine Xt.Nw.joined ?_ | refine Xt.Nw.drewd ?_ | refine Xt.Nw.drewdN ?_ | refine Xt.Nw.ext ?_ | refine Xt.Nw.ext_some ?_ (by assumption) | refine Xt.Nw.setCell ?_ (by simp [go_sem] <;> omega) _)), HL.out.nw (by repeat (first | exact Xt.Nw.refl _ | refine Xt.Nw.drew ?_ | refine Xt.Nw.drewN ?_ _ | refine Xt.Nw.alloc ?_ _ | refine Xt.Nw.joined ?_ | refine Xt.Nw.drewd ?_ | refine Xt.Nw.drewdN ?_ | refine Xt.Nw.ext ?_ | refine Xt.Nw.ext_some ?_ (by assumption) | refine Xt.Nw.setCell ?_ (by simp [go_sem] <;> omega) _))⟩
    case round =>
      clear HA HL
      obtain ⟨k, hk, rfl, ⟨d, rfl⟩, hsp, hspl⟩ := hrel
      have HSL := Lib.hid hspl
      clear hspl
      by_cases hlt : k < (Nm.norm l).length
      · obtain ⟨b, o, lo, hi, hAa, hbb, hx, c0, c1⟩ := hsp.get hlt
        have hle : ¬ hi < lo := by have := HNF.out.valid _ (List.mem_of_getElem? hx); simp only at this; omega
        have hbd := HBN.out _ (List.mem_of_getElem? hx)
        simp only at hbd
        have hle' : decide (hi < lo) = false := by simp; omega
        rcases Nat.eq_zero_or_pos k with rfl | hk0
        · have HSP := Lib.hid hsp
          clear hsp hbd
          subst hAa
          simp only [Nat.zero_mul, Nat.add_zero] at c0 c1
          go_wp2
          (refine wp_region_nw (by kernel_rfl) (by kernel_rfl) ?_; (repeat (go_big_quiet_step (fail))); refine wpQuiet_nil ?_; intro _ hreg; obtain ⟨dW, rfl⟩ : Nw _ _ := hreg)
          go_wp2
          exact ⟨⟨1, by omega, by go_num, (by repeat (first | exact Xt.Nw.refl _ | refine Xt.Nw.drew ?_ | refine Xt.Nw.drewN ?_ _ | refine Xt.Nw.alloc ?_ _ | refine Xt.Nw.joined ?_ | refine Xt.Nw.drewd ?_ | refine Xt.Nw.drewdN ?_ | refine Xt.Nw.ext ?_ | refine Xt.Nw.ext_some ?_ (by assumption) | refine Xt.Nw.setCell ?_ (by simp [go_sem] <;> omega) _)), HSP.out.nw (by repeat (first | exact Xt.Nw.refl _ | refine Xt.Nw.drew ?_ | refine Xt.Nw.drewN ?_ _ | refine Xt.Nw.alloc ?_ _ | refine Xt.Nw.joined ?_ | refine Xt.Nw.drewd ?_ | refine Xt.Nw.drewdN ?_ | refine Xt.Nw.ext ?_ | refine Xt.Nw.ext_some ?_ (by assumption) | refine Xt.Nw.setCell ?_ (by simp [go_sem] <;> omega) _)), HSL.out.nw (by repeat (first | exact Xt.Nw.refl _ | refine Xt.Nw.drew ?_ | refine Xt.Nw.drewN ?_ _ | refine Xt.Nw.alloc ?_ _ | refine Xt.Nw.joined ?_ | refine Xt.Nw.drewd ?_ | refine Xt.Nw.drewdN ?_ | refine Xt.Nw.ext ?_ | refine Xt.Nw.ext_some ?_ (by assumption) | refine Xt.Nw.setCell ?_ (by simp [go_sem] <;> omega) _))⟩, by simp [intOf]; omega⟩
        · obtain ⟨j, rfl⟩ : ∃ j, k = j + 1 := ⟨k - 1, by omega⟩
          obtain ⟨b', o', lo', hi', hAa', _, hx', c0', c1'⟩ := hsp.get (show j < _ by omega)
          have hgap := Nf_get HNF.out j _ _ hx' hx
          have hbd' := HBN.out _ (List.mem_of_getElem? hx')
          simp only at hbd' hgap
          rw [hAa] at hAa'
          injection hAa' with hAa'
          injection hAa' with e1 e2
          subst e1 e2
          have HSP := Lib.hid hsp
          subst hAa
          generalize hkk : j + 1 = k at *
          have g1 : IntKind.i64.wrap ((k : Int) - 1) = (j : Int) := by
            rw [show (k : Int) - 1 = j by omega]
            simp only [IntKind.wrap, IntKind.bits, IntKind.signed]; simp; omega
          have g2 : IntKind.u64.wrap (hi' + 1) = hi' + 1 := by rw [IntKind.wrap_u64]; omega
          have g3 : (hi' == 18446744073709551615) = false := by rw [beq_eq_false_iff_ne]; omega
          have g4 : decide (lo ≤ hi' + 1) = false := decide_eq_false_iff_not.2 (by omega)
          have g5 : j < (Nm.norm l).length := by omega
          clear hsp hbd hbd' hgap hx hx'
          go_wp2
          (refine wp_region_nw (by kernel_rfl) (by kernel_rfl) ?_; (repeat (go_big_quiet_step (fail))); refine wpQuiet_nil ?_; intro _ hreg; obtain ⟨dW, rfl⟩ : Nw _ _ := hreg)
          go_wp2
          exact ⟨⟨k + 1, by omega, by go_num, (by repeat (first | exact Xt.Nw.refl _ | refine Xt.Nw.drew ?_ | refine Xt.Nw.drewN ?_ _ | refine Xt.Nw.alloc ?_ _ | refine Xt.Nw.joined ?_ | refine Xt.Nw.drewd ?_ | refine Xt.Nw.drewdN ?_ | refine Xt.Nw.ext ?_ | refine Xt.Nw.ext_some ?_ (by assumption) | refine Xt.Nw.setCell ?_ (by simp [go_sem] <;> omega) _)), HSP.out.nw (by repeat (first | exact Xt.Nw.refl _ | refine Xt.Nw.drew ?_ | refine Xt.Nw.drewN ?_ _ | refine Xt.Nw.alloc ?_ _ | refine Xt.Nw.joined ?_ | refine Xt.Nw.drewd ?_ | refine Xt.Nw.drewdN ?_ | refine Xt.Nw.ext ?_ | refine Xt.Nw.ext_some ?_ (by assumption) | refine Xt.Nw.setCell ?_ (by simp [go_sem] <;> omega) _)), HSL.out.nw (by repeat (first | exact Xt.Nw.refl _ | refine Xt.Nw.drew ?_ | refine Xt.Nw.drewN ?_ _ | refine Xt.Nw.alloc ?_ _ | refine Xt.Nw.joined ?_ | refine Xt.Nw.drewd ?_ | refine Xt.Nw.drewdN ?_ | refine Xt.Nw.ext ?_ | refine Xt.Nw.ext_some ?_ (by assumption) | refine Xt.Nw.setCell ?_ (by simp [go_sem] <;> omega) _))⟩, by simp [intOf]; omega⟩
      · have HSP := Lib.hid hsp
        clear hsp
        go_wp2_with fail
        go_loopw [8] (fun t wr => ∃ k : Nat, k ≤ n ∧ t = .int .i64 k ∧ Nw w wr ∧ Sp wr Aa (Nm.norm l).length (Nm.norm l) ∧ Sp wr A n l) (fun t _ => n - (intOf t).toNat)
        case atStart => exact ⟨0, Nat.zero_le _, rfl, (by repeat (first | exact Xt.Nw.refl _ | refine Xt.Nw.drew ?_ | refine Xt.Nw.drewN ?_ _ | refine Xt.Nw.alloc ?_ _ | refine Xt.Nw.joined ?_ | refine Xt.Nw.drewd ?_ | refine Xt.Nw.drewdN ?_ | refine Xt.Nw.ext ?_ | refine Xt.Nw.ext_some ?_ (by assumption) | refine Xt.Nw.setCell ?_ (by simp [go_sem] <;> omega) _)), HSP.out.nw (by repeat (first | exact Xt.Nw.refl _ | refine Xt.Nw.drew ?_ | refine Xt.Nw.drewN ?_ _ | refine Xt.Nw.alloc ?_ _ | refine Xt.Nw.joined ?_ | refine Xt.Nw.drewd ?_ | refine Xt.Nw.drewdN ?_ | refine Xt.Nw.ext ?_ | refine Xt.Nw.ext_some ?_ (by assumption) | refine Xt.Nw.setCell ?_ (by simp [go_sem] <;> omega) _)), HSL.out.nw (by repeat (first | exact Xt.Nw.refl _ | refine Xt.Nw.drew ?_ | refine Xt.Nw.drewN ?_ _ | refine Xt.Nw.alloc ?_ _ | refine Xt.Nw.joined ?_ | refine Xt.Nw.drewd ?_ | refine Xt.Nw.drewdN ?_ | refine Xt.Nw.ext ?_ | refine Xt.Nw.ext_some ?_ (by assumption) | refine Xt.Nw.setCell ?_ (by simp [go_sem] <;> omega) _))⟩
        case round =>
          clear HSP HSL hk
          obtain ⟨k, hk, rfl, ⟨d1, rfl⟩, hsp, hspl⟩ := hrel
          have HSP := Lib.hid hsp
          have HL0 := Lib.hid hspl
          clear hsp
          by_cases hlt : k < n
          · obtain ⟨b, o, lo, hi, hAa, hbb, hx, c0, c1⟩ := hspl.get hlt
            have HSL := Lib.hid hspl
            clear hspl HL0
            subst hAa
            go_wp2_with fail
            generalize hWg : w.ext none d1 = W at *
            go_big_region
            go_wp2_with fail
            subst hWg
            go_loopw [108] (fun t wr => ∃ m : Nat, m ≤ 4 ∧ t = .int .i64 m ∧ Nw w wr ∧ Sp wr Aa (Nm.norm l).length (Nm.norm l) ∧ Sp wr (some ⟨b, o, none⟩) n l ∧ (In (w.ext none d1).heap.size wr) ∧ ∀ q, q < 4 → ∃ v, wr.cell? ⟨(w.ext none d1).heap.size, q, none⟩ = some (.int .u64 v)) (fun t _ => 4 - (intOf t).toNat)
            case atStart => exact ⟨0, by omega, rfl, (by repeat (first | exact Xt.Nw.refl _ | refine Xt.Nw.drew ?_ | refine Xt.Nw.drewN ?_ _ | refine Xt.Nw.alloc ?_ _ | refine Xt.Nw.joined ?_ | refine Xt.Nw.drewd ?_ | refine Xt.Nw.drewdN ?_ | refine Xt.Nw.ext ?_ | refine Xt.Nw.ext_some ?_ (by assumption) | refine Xt.Nw.setCell ?_ (by simp [go_sem] <;> omega) _)), HSP.out.nw (by repeat (first | exact Xt.Nw.refl _ | refine Xt.Nw.drew ?_ | refine Xt.Nw.drewN ?_ _ | refine Xt.Nw.alloc ?_ _ | refine Xt.Nw.joined ?_ | refine Xt.Nw.drewd ?_ | refine Xt.Nw.drewdN ?_ | refine Xt.Nw.ext ?_ | refine Xt.Nw.ext_some ?_ (by assumption) | refine Xt.Nw.setCell ?_ (by simp [go_sem] <;> omega) _)), HSL.out.nw (by repeat (first | exact Xt.Nw.refl _ | refine Xt.Nw.drew ?_ | refine Xt.Nw.drewN ?_ _ | refine Xt.Nw.alloc ?_ _ | refine Xt.Nw.joined ?_ | refine Xt.Nw.drewd ?_ | refine Xt.Nw.drewdN ?_ | refine Xt.Nw.ext ?_ | refine Xt.Nw.ext_some ?_ (by assumption) | refine Xt.Nw.setCell ?_ (by simp [go_sem] <;> omega) _)), by constructor; simp [go_sem], fun q hq => by rcases (show q = 0 ∨ q = 1 ∨ q = 2 ∨ q = 3 by omega) with rfl | rfl | rfl | rfl <;> exact ⟨_, by simp [go_sem]; rfl⟩⟩
            case round =>
              clear HSP HSL
              obtain ⟨m, hm, rfl, ⟨d3, rfl⟩, hspm, hsplm, hg, hbox⟩ := hrel
              have HSP := Lib.hid hspm
              have HSL := Lib.hid hsplm
              clear hspm hsplm
              by_cases hm4 : m < 4
              · obtain ⟨v, hv⟩ := hbox m hm4
                have HIN := Lib.hid (inF_norm HVL.out v)
                have HBX := Lib.hid hbox
                clear hbox
                (go_wp2_with fail); refine (in_any v _ _ _ (Nm.norm l) _ (by omega) (HSP.out.nw (by repeat (first | exact Xt.Nw.refl _ | refine Xt.Nw.drew ?_ | refine Xt.Nw.drewN ?_ _ | refine Xt.Nw.alloc ?_ _ | refine Xt.Nw.joined ?_ | refine Xt.Nw.drewd ?_ | refine Xt.Nw.drewdN ?_ | refine Xt.Nw.ext ?_ | refine Xt.Nw.ext_some ?_ (by assumption) | refine Xt.Nw.setCell ?_ (by simp [go_sem] <;> omega) _)))).mono ?_; rintro e w' ⟨rfl, dV, rfl⟩
                rw [HIN.out]
                (go_wp2_with fail); refine (in_any v _ _ _ l _ (by omega) (HSL.out.nw (by repeat (first | exact Xt.Nw.refl _ | refine Xt.Nw.drew ?_ | refine Xt.Nw.drewN ?_ _ | refine Xt.Nw.alloc ?_ _ | refine Xt.Nw.joined ?_ | refine Xt.Nw.drewd ?_ | refine Xt.Nw.drewdN ?_ | refine Xt.Nw.ext ?_ | refine Xt.Nw.ext_some ?_ (by assumption) | refine Xt.Nw.setCell ?_ (by simp [go_sem] <;> omega) _)))).mono ?_; rintro e w' ⟨rfl, dW, rfl⟩
                go_wp2_with fail
                exact ⟨⟨m + 1, by omega, by go_num, (by repeat (first | exact Xt.Nw.refl _ | refine Xt.Nw.drew ?_ | refine Xt.Nw.drewN ?_ _ | refine Xt.Nw.alloc ?_ _ | refine Xt.Nw.joined ?_ | refine Xt.Nw.drewd ?_ | refine Xt.Nw.drewdN ?_ | refine Xt.Nw.ext ?_ | refine Xt.Nw.ext_some ?_ (by assumption) | refine Xt.Nw.setCell ?_ (by simp [go_sem] <;> omega) _)), HSP.out.nw (by repeat (first | exact Xt.Nw.refl _ | refine Xt.Nw.drew ?_ | refine Xt.Nw.drewN ?_ _ | refine Xt.Nw.alloc ?_ _ | refine Xt.Nw.joined ?_ | refine Xt.Nw.drewd ?_ | refine Xt.Nw.drewdN ?_ | refine Xt.Nw.ext ?_ | refine Xt.Nw.ext_some ?_ (by assumption) | refine Xt.Nw.setCell ?_ (by simp [go_sem] <;> omega) _)), HSL.out.nw (by repeat (first | exact Xt.Nw.refl _ | refine Xt.Nw.drew ?_ | refine Xt.Nw.drewN ?_ _ | refine Xt.Nw.alloc ?_ _ | refine Xt.Nw.joined ?_ | refine Xt.Nw.drewd ?_ | refine Xt.Nw.drewdN ?_ | refine Xt.Nw.ext ?_ | refine Xt.Nw.ext_some ?_ (by assumption) | refine Xt.Nw.setCell ?_ (by simp [go_sem] <;> omega) _)), inferInstance, fun q hq => by obtain ⟨u, hu⟩ := HBX.out q hq; exact ⟨u, by simp [go_sem, hu]⟩⟩, by simp [intOf] <;> omega⟩
              · clear hbox
                go_wp2_with fail
                exact ⟨⟨k + 1, by omega, by go_num, (by repeat (first | exact Xt.Nw.refl _ | refine Xt.Nw.drew ?_ | refine Xt.Nw.drewN ?_ _ | refine Xt.Nw.alloc ?_ _ | refine Xt.Nw.joined ?_ | refine Xt.Nw.drewd ?_ | refine Xt.Nw.drewdN ?_ | refine Xt.Nw.ext ?_ | refine Xt.Nw.ext_some ?_ (by assumption) | refine Xt.Nw.setCell ?_ (by simp [go_sem] <;> omega) _)), HSP.out.nw (by repeat (first | exact Xt.Nw.refl _ | refine Xt.Nw.drew ?_ | refine Xt.Nw.drewN ?_ _ | refine Xt.Nw.alloc ?_ _ | refine Xt.Nw.joined ?_ | refine Xt.Nw.drewd ?_ | refine Xt.Nw.drewdN ?_ | refine Xt.Nw.ext ?_ | refine Xt.Nw.ext_some ?_ (by assumption) | refine Xt.Nw.setCell ?_ (by simp [go_sem] <;> omega) _)), HSL.out.nw (by repeat (first | exact Xt.Nw.refl _ | refine Xt.Nw.drew ?_ | refine Xt.Nw.drewN ?_ _ | refine Xt.Nw.alloc ?_ _ | refine Xt.Nw.joined ?_ | refine Xt.Nw.drewd ?_ | refine Xt.Nw.drewdN ?_ | refine Xt.Nw.ext ?_ | refine Xt.Nw.ext_some ?_ (by assumption) | refine Xt.Nw.setCell ?_ (by simp [go_sem] <;> omega) _))⟩, by simp [intOf] <;> omega⟩
          · have HSL := Lib.hid hspl
            clear hspl HL0
            obtain ⟨z, hzz⟩ : ∃ z, z = l.headD (0, 0) := ⟨_, rfl⟩
            have HZ := Lib.hid hzz
            clear hzz
            go_wp2_with fail
            go_loopw [11, 12] (fun a t wr => ∃ (j : Nat) (i : Int), i = (j : Int) - 1 ∧ j ≤ n ∧ t = .int .i64 i ∧ wr.ownsRow (w.ext none d1).heap.size 24 2 a (tw l z j).length (cells (tw l z j)) ∧ Nw (w.ext none d1) wr) (fun _ t _ => (intOf t + 1).toNat)
            case atStart => exact ⟨n, _, rfl, Nat.le_refl _, by go_num, by rw [tw_end l _ (by have := HSL.out.1; omega)]; exact World.ownsRow_nil _ _ _ _, (by repeat (first | exact Xt.Nw.refl _ | refine Xt.Nw.drew ?_ | refine Xt.Nw.drewN ?_ _ | refine Xt.Nw.alloc ?_ _ | refine Xt.Nw.joined ?_ | refine Xt.Nw.drewd ?_ | refine Xt.Nw.drewdN ?_ | refine Xt.Nw.ext ?_ | refine Xt.Nw.ext_some ?_ (by assumption) | refine Xt.Nw.setCell ?_ (by simp [go_sem] <;> omega) _))⟩
            case round =>
              obtain ⟨j, i, hij, hj, rfl, hown, d2, rfl⟩ := hrel
              have htl := tw_len l z j
              have hll := HSL.out.1
              by_cases hj0 : j = 0
              · subst hj0
                obtain rfl : i = -1 := by omega
                have hzm : 0 < l.length → z ∈ l := by
                  intro h
                  rw [HZ.out]
                  cases l with
                  | nil => simp at h
                  | cons a l => simp
                have hokT : Hid (Ok (tw l z 0) = true) := (ok_iff _).2 fun s hs => HVL.out s ((tw_mem hzm s).1 hs)
                have hbT : Hid (Bd (tw l z 0)) := fun s hs => HB.out s ((tw_mem hzm s).1 hs)
                have hokN : Hid (Ok (Nm.norm l) = true) := (ok_iff _).2 HNF.out.valid
                have hnt := Lib.hid (norm_tw hzm HVL.out)
                have hnn := Lib.hid (norm_norm HVL.out)
                have hik := Lib.hid (inF_norm HVL.out key)
                have htl' : (tw l z 0).length ≤ 1000 := by omega
                generalize hT : tw l z 0 = T at *
                have hown' : Own _ (w.ext none d1).heap.size _ T := hown
                have hnilT := Own.nilcap' hown'
                obtain ⟨At, ct, rfl, hspt⟩ := Own.form hown'
                have HST := Lib.hid hspt
                have HNT := Lib.hid (hnilT _ _ _ rfl)
                generalize hTn : T.length = Tn at *
                clear hown hown' hspt hnilT hzm hij hj hT hTn htl
                (go_wp2_with fail)
                refine (norm_ok At _ ct T _ htl' HNT.out (HST.out.nw (by repeat (first | exact Xt.Nw.refl _ | refine Xt.Nw.drew ?_ | refine Xt.Nw.drewN ?_ _ | refine Xt.Nw.alloc ?_ _ | refine Xt.Nw.joined ?_ | refine Xt.Nw.drewd ?_ | refine Xt.Nw.drewdN ?_ | refine Xt.Nw.ext ?_ | refine Xt.Nw.ext_some ?_ (by assumption) | refine Xt.Nw.setCell ?_ (by simp [go_sem] <;> omega) _))) hokT.out hbT.out).mono ?_
                rintro e w' ⟨Am, cm, rfl, hspm, _, _, _, dM, rfl⟩
                rw [hnt.out] at hspm
                rw [hnt.out]
                have HM := Lib.hid hspm
                clear hspm
                (go_wp2_with fail)
                refine (norm_ok Aa _ ca (Nm.norm l) _ (by omega) HNI.out (HSP.out.nw (by repeat (first | exact Xt.Nw.refl _ | refine Xt.Nw.drew ?_ | refine Xt.Nw.drewN ?_ _ | refine Xt.Nw.alloc ?_ _ | refine Xt.Nw.joined ?_ | refine Xt.Nw.drewd ?_ | refine Xt.Nw.drewdN ?_ | refine Xt.Nw.ext ?_ | refine Xt.Nw.ext_some ?_ (by assumption) | refine Xt.Nw.setCell ?_ (by simp [go_sem] <;> omega) _))) hokN.out HBN.out).mono ?_
                rintro e w' ⟨Ag, cg, rfl, hspg, _, _, _, dG, rfl⟩
                rw [hnn.out] at hspg
                rw [hnn.out]
                have HG := Lib.hid hspg
                clear hspg
                (go_wp2_with fail); refine (lsame_any _ _ _ _ _ _ (Nm.norm l) (Nm.norm l) _ (by omega) (by omega) (HM.out.nw (by repeat (first | exact Xt.Nw.refl _ | refine Xt.Nw.drew ?_ | refine Xt.Nw.drewN ?_ _ | refine Xt.Nw.alloc ?_ _ | refine Xt.Nw.joined ?_ | refine Xt.Nw.drewd ?_ | refine Xt.Nw.drewdN ?_ | refine Xt.Nw.ext ?_ | refine Xt.Nw.ext_some ?_ (by assumption) | refine Xt.Nw.setCell ?_ (by simp [go_sem] <;> omega) _))) (HSP.out.nw (by repeat (first | exact Xt.Nw.refl _ | refine Xt.Nw.drew ?_ | refine Xt.Nw.drewN ?_ _ | refine Xt.Nw.alloc ?_ _ | refine Xt.Nw.joined ?_ | refine Xt.Nw.drewd ?_ | refine Xt.Nw.drewdN ?_ | refine Xt.Nw.ext ?_ | refine Xt.Nw.ext_some ?_ (by assumption) | refine Xt.Nw.setCell ?_ (by simp [go_sem] <;> omega) _)))).mono ?_; rintro e w' ⟨rfl, dS, rfl⟩
                (go_wp2_with fail); refine (lsame_any _ _ _ _ _ _ (Nm.norm l) (Nm.norm l) _ (by omega) (by omega) (HG.out.nw (by repeat (first | exact Xt.Nw.refl _ | refine Xt.Nw.drew ?_ | refine Xt.Nw.drewN ?_ _ | refine Xt.Nw.alloc ?_ _ | refine Xt.Nw.joined ?_ | refine Xt.Nw.drewd ?_ | refine Xt.Nw.drewdN ?_ | refine Xt.Nw.ext ?_ | refine Xt.Nw.ext_some ?_ (by assumption) | refine Xt.Nw.setCell ?_ (by simp [go_sem] <;> omega) _))) (HSP.out.nw (by repeat (first | exact Xt.Nw.refl _ | refine Xt.Nw.drew ?_ | refine Xt.Nw.drewN ?_ _ | refine Xt.Nw.alloc ?_ _ | refine Xt.Nw.joined ?_ | refine Xt.Nw.drewd ?_ | refine Xt.Nw.drewdN ?_ | refine Xt.Nw.ext ?_ | refine Xt.Nw.ext_some ?_ (by assumption) | refine Xt.Nw.setCell ?_ (by simp [go_sem] <;> omega) _)))).mono ?_; rintro e w' ⟨rfl, dT, rfl⟩
                (go_wp2_with fail); refine (in_any key _ _ _ (Nm.norm l) _ (by omega) (HSP.out.nw (by repeat (first | exact Xt.Nw.refl _ | refine Xt.Nw.drew ?_ | refine Xt.Nw.drewN ?_ _ | refine Xt.Nw.alloc ?_ _ | refine Xt.Nw.joined ?_ | refine Xt.Nw.drewd ?_ | refine Xt.Nw.drewdN ?_ | refine Xt.Nw.ext ?_ | refine Xt.Nw.ext_some ?_ (by assumption) | refine Xt.Nw.setCell ?_ (by simp [go_sem] <;> omega) _)))).mono ?_; rintro e w' ⟨rfl, dU, rfl⟩
                rw [hik.out]
                (go_wp2_with fail); refine (in_any key _ _ _ l _ (by omega) (HSL.out.nw (by repeat (first | exact Xt.Nw.refl _ | refine Xt.Nw.drew ?_ | refine Xt.Nw.drewN ?_ _ | refine Xt.Nw.alloc ?_ _ | refine Xt.Nw.joined ?_ | refine Xt.Nw.drewd ?_ | refine Xt.Nw.drewdN ?_ | refine Xt.Nw.ext ?_ | refine Xt.Nw.ext_some ?_ (by assumption) | refine Xt.Nw.setCell ?_ (by simp [go_sem] <;> omega) _)))).mono ?_; rintro e w' ⟨rfl, dV, rfl⟩
                go_wp2_with (go_at_call 26; refine (known_any _).mono ?_; rintro e w' ⟨rfl, dW, rfl⟩)
                go_ret
                exact ⟨rfl, (by repeat (first | exact Xt.Nw.refl _ | refine Xt.Nw.drew ?_ | refine Xt.Nw.drewN ?_ _ | refine Xt.Nw.alloc ?_ _ | refine Xt.Nw.joined ?_ | refine Xt.Nw.drewd ?_ | refine Xt.Nw.drewdN ?_ | refine Xt.Nw.ext ?_ | refine Xt.Nw.ext_some ?_ (by assumption) | refine Xt.Nw.setCell ?_ (by simp [go_sem] <;> omega) _))⟩
              · obtain ⟨j', rfl⟩ : ∃ j', j = j' + 1 := ⟨j - 1, by omega⟩
                obtain rfl : i = (j' : Int) := by omega
                obtain ⟨b, o, lo, hi, hAa, hbb, hx, c0, c1⟩ := HSL.out.get (show j' < n by omega)
                obtain ⟨b', o', lo0, hi0, hAa', hbb', hx0, c00, c10⟩ := HSL.out.get (show 0 < n by omega)
                have hz : z = (lo0, hi0) := by
                  rw [HZ.out]
                  cases l with
                  | nil => simp at hx0
                  | cons a l => simp at hx0; exact hx0
                have hstep := tw_step z hx
                rw [hz] at hstep htl hown ⊢
                rw [hAa] at hAa'
                injection hAa' with hAa'
                injection hAa' with e1 e2
                subst e1 e2
                subst hAa
                simp only [Nat.zero_mul, Nat.add_zero] at c00 c10
                have HX := Lib.hid hstep
                have hj'n : j' < n := by omega
                have hn0 : 0 < n := by omega
                clear hij
                clear hstep hx hx0
                go_wp2_with fail
                go_region_law (refine step_app1 rfl (.tmp 127) (.tmp 135) 37 rfl 24 (.agg #[.int .u64 0, .int .u64 0]) 2 16 Try.underlying37 spanInfo rfl (by decide) (w.ext none d1) _ (by repeat (first | exact Xt.Nw.refl _ | refine Xt.Nw.drew ?_ | refine Xt.Nw.drewN ?_ _ | refine Xt.Nw.alloc ?_ _ | refine Xt.Nw.joined ?_ | refine Xt.Nw.drewd ?_ | refine Xt.Nw.drewdN ?_ | refine Xt.Nw.ext ?_ | refine Xt.Nw.ext_some ?_ (by assumption) | refine Xt.Nw.setCell ?_ (by simp [go_sem] <;> omega) _)) _ _ _ (by simp [Act.eval, Act.put]; rfl) (by first | assumption | exact own_nw (by assumption) (by repeat (first | exact Xt.Nw.refl _ | refine Xt.Nw.drew ?_ | refine Xt.Nw.drewN ?_ _ | refine Xt.Nw.alloc ?_ _ | refine Xt.Nw.joined ?_ | refine Xt.Nw.drewd ?_ | refine Xt.Nw.drewdN ?_ | refine Xt.Nw.ext ?_ | refine Xt.Nw.ext_some ?_ (by assumption) | refine Xt.Nw.setCell ?_ (by simp [go_sem] <;> omega) _))) _ 2 2 24 [.int .u64 lo, .int .u64 hi, .int .u64 lo0, .int .u64 hi0] (by simp [Act.eval, Act.put]; rfl) (by first | rfl | simp) rfl (by intro u hu; simp at hu; (repeat' rcases hu with rfl | hu) <;> first | rfl | (subst hu; rfl)) (by unfold maxLen; omega) (by omega) ?_; intro vA dA hownA)
                all_goals (go_wp2_with fail)
                all_goals exact ⟨⟨j', (j' : Int) - 1, rfl, by omega, by go_num, own_cast hownA (by rw [HX.out]; simp) (by rw [HX.out, cells_append]; simp [cells]), (by repeat (first | exact Xt.Nw.refl _ | refine Xt.Nw.drew ?_ | refine Xt.Nw.drewN ?_ _ | refine Xt.Nw.alloc ?_ _ | refine Xt.Nw.joined ?_ | refine Xt.Nw.drewd ?_ | refine Xt.Nw.drewdN ?_ | refine Xt.Nw.ext ?_ | refine Xt.Nw.ext_some ?_ (by assumption) | refine Xt.Nw.setCell ?_ (by simp [go_sem] <;> omega) _))⟩, by simp [intOf] <;> omega⟩
end Go.Proofs.Ytdhinclpmmpkhaa
