import Derived.Test.YtdhinclpmmpkhaaK
namespace Go.Proofs.Ytdhinclpmmpkhaa
open Go.RowKit Go.Xt
theorem Own.nilcap {w : World} {base n c : Nat} {A : Option Addr} {l : List (Int × Int)} (h : Own w base (.slice A n c) l) : A = none → c = 0 := by
  rintro rfl
  rcases h.2 with ⟨h1, _⟩ | ⟨g, cap, cur, h1, _⟩
  · injection h1
  · injection h1 with h1; cases h1
theorem Sp_nil (w : World) : Sp w none 0 [] := ⟨rfl, fun h => absurd h (by omega)⟩
theorem Sp.setCell {w : World} {A : Option Addr} {n : Nat} {l : List (Int × Int)} (h : Sp w A n l) {B : Nat} (hA : 0 < n → ∀ b o, A = some ⟨b, o, none⟩ → b < B) {p : Addr} (hp : B ≤ p.block) (u : Value) : Sp (w.setCell p u) A n l :=
  ⟨h.1, fun hn => by
    obtain ⟨b, o, rfl, hb, hc⟩ := h.2 hn
    have := hA hn b o rfl
    refine ⟨b, o, rfl, by simpa using hb, fun i x hx => ?_⟩
    rw [World.cell?_setCell_other _ _ _ _ (fun e => by subst e; simp at hp; omega), World.cell?_setCell_other _ _ _ _ (fun e => by subst e; simp at hp; omega)]
    exact hc i x hx⟩
theorem norm_known (w : World) (g : Nat) (hg : g = w.heap.size) :
    Calls Try.prog 27 #[.slice (some ⟨g, 0, none⟩) 2 2] (w.alloc (.cells #[.int .u64 5, .int .u64 6, .int .u64 1, .int .u64 4] 24)) fun e w' =>
      ∃ b c, e = .returned (.tuple #[.slice (some ⟨b, 0, none⟩) 1 c, .int .i64 0]) ∧ In b w' ∧ 1 ≤ c ∧ w'.cell? ⟨b, 0, none⟩ = some (.int .u64 1) ∧ w'.cell? ⟨b, 1, none⟩ = some (.int .u64 6) ∧ Nw (w.alloc (.cells #[.int .u64 5, .int .u64 6, .int .u64 1, .int .u64 4] 24)) w' := by
  have hn : Nm.norm [(5, 6), (1, 4)] = [(1, 6)] := by decide
  have h := norm_ok (some ⟨g, 0, none⟩) 2 2 [(5, 6), (1, 4)] _ (by omega) (fun h => by cases h) (Sp_two w g hg 5 6 1 4 24) (by decide) (by intro s hs; simp at hs; rcases hs with rfl | rfl <;> simp)
  rw [hn] at h
  refine Calls.mono (P := Try.prog) h ?_
  rintro e w' ⟨A, c, rfl, hsp, _, hfr, hc, hnw⟩
  obtain ⟨b, rfl, _, _⟩ := hfr (by simp)
  obtain ⟨b', o', h1, h2, h3⟩ := hsp.2 (by simp)
  injection h1 with h1
  injection h1 with h4 h5
  subst h4 h5
  obtain ⟨c0, c1⟩ := h3 0 (1, 6) rfl
  exact ⟨b, c, rfl, ⟨h2⟩, by simpa using hc, c0, c1, hnw⟩
set_option maxHeartbeats 1000000 in
theorem known_any (w : World) : Calls Try.prog 26 #[] w fun e w' => e = .returned (.bool true) ∧ Nw w w' := by
  go_enter Try.func26, Try.ntmps26
  go_wp2_with (go_at_call 27; refine (norm_known _ _ rfl).mono ?_; rintro e w' ⟨b, c, rfl, hb, hc, c0, c1, dW, rfl⟩)
  have e1 : has 1 6 6 = true := by decide
  have e2 : has 1 6 7 = false := by decide
  go_wp2_with (first | (go_at_call 16; refine (has_any _ _ _ _).mono ?_; rintro e w' ⟨rfl, dW, rfl⟩))
  go_ret
  exact ⟨rfl, (by repeat (first | exact Xt.Nw.refl _ | refine Xt.Nw.drew ?_ | refine Xt.Nw.drewN ?_ _ | refine Xt.Nw.alloc ?_ _ | refine Xt.Nw.joined ?_ | refine Xt.Nw.drewd ?_ | refine Xt.Nw.drewdN ?_ | refine Xt.Nw.ext ?_ | refine Xt.Nw.ext_some ?_ (by assumption) | refine Xt.Nw.setCell ?_ (by simp [go_sem] <;> omega) _))⟩
set_option maxHeartbeats 2000000 in
theorem normalizes_any (A : Option Addr) (n c : Nat) (l : List (Int × Int)) (w : World) (hc : A = none → c = 0) (hn : n ≤ 9223372036854775807) (hl : Sp w A n l) (hb : Bd l) :
    Calls Try.prog 5 #[.slice A n c] w fun e w' => e = .returned (.bool true) ∧ Nw w w' := by
  by_cases hbig : 60 < n
  · go_enter Try.func5, Try.ntmps5
    go_wp2_with ((go_at_call 26; refine (known_any _).mono ?_; rintro e w' ⟨rfl, dW, rfl⟩))
    go_ret
    exact ⟨rfl, (by repeat (first | exact Xt.Nw.refl _ | refine Xt.Nw.drew ?_ | refine Xt.Nw.drewN ?_ _ | refine Xt.Nw.alloc ?_ _ | refine Xt.Nw.joined ?_ | refine Xt.Nw.drewd ?_ | refine Xt.Nw.drewdN ?_ | refine Xt.Nw.ext ?_ | refine Xt.Nw.ext_some ?_ (by assumption) | refine Xt.Nw.setCell ?_ (by simp [go_sem] <;> omega) _))⟩
  · have hrd := Lib.hid hl.rd
    have H1 := Lib.hid hl.1
    have HL := Lib.hid hl
    have HB := Lib.hid hb
    clear hl hb hc
    have hle : n ≤ 60 := by omega
    cases hok : Ok l with
    | false =>
      have HK := Lib.hid hok
      clear hok
      go_enter Try.func5, Try.ntmps5
      go_wp2_with (at_builtin; refine wpList_appS rfl _ _ 37 rfl 24 (.agg #[.int .u64 0, .int .u64 0]) 2 16 Try.underlying37 spanInfo rfl (by decide) w _ ((Nw.refl w).alloc _) _ 0 [] rfl (World.ownsRow_made _ _ _ (Nat.le_refl _) (by unfold maxLen; omega) rfl) _ n c (cells l) rfl (hrd.out.nw ((Nw.refl w).alloc _)) (cells_one l) (by unfold maxLen; omega) (by omega) ?_; intro v' d' hown' hnil)
      have hsp : Own _ _ v' l := own_cast hown' (by rw [Nat.zero_add]; exact H1.out.symm) (List.nil_append _)
      obtain ⟨Ax, cx, rfl, hspx⟩ := Own.form hsp
      have HX := Lib.hid hspx
      clear hown' hsp hspx hnil
      have hlen : l.length = n := H1.out
      rw [hlen] at HX ⊢
      clear hlen
      go_wp2_with (first | (go_at_call 27; refine (norm_bad _ _ _ l _ (by omega) (HX.out.nw (by repeat (first | exact Xt.Nw.refl _ | refine Xt.Nw.drew ?_ | refine Xt.Nw.drewN ?_ _ | refine Xt.Nw.alloc ?_ _ | refine Xt.Nw.joined ?_ | refine Xt.Nw.drewd ?_ | refine Xt.Nw.drewdN ?_ | refine Xt.Nw.ext ?_ | refine Xt.Nw.ext_some ?_ (by assumption) | refine Xt.Nw.setCell ?_ (by simp [go_sem] <;> omega) _))) HK.out).mono ?_; rintro e w' ⟨rfl, dW, rfl⟩) | (go_at_call 28; refine (rnorm_bad _ _ _ l _ (by omega) (HL.out.nw (by repeat (first | exact Xt.Nw.refl _ | refine Xt.Nw.drew ?_ | refine Xt.Nw.drewN ?_ _ | refine Xt.Nw.alloc ?_ _ | refine Xt.Nw.joined ?_ | refine Xt.Nw.drewd ?_ | refine Xt.Nw.drewdN ?_ | refine Xt.Nw.ext ?_ | refine Xt.Nw.ext_some ?_ (by assumption) | refine Xt.Nw.setCell ?_ (by simp [go_sem] <;> omega) _))) HK.out).mono ?_; rintro e w' ⟨rfl, dW, rfl⟩))
      go_wp2_with fail
      refine (same_any _ _ _ _ _ _ [] [] _ (by omega) (by omega) (Sp_nil _) (Sp_nil _)).mono ?_; rintro e w' ⟨rfl, dS, rfl⟩
      go_wp2_with fail
      refine (same_any _ _ _ _ _ _ l l _ hn hn (HX.out.nw (by repeat (first | exact Xt.Nw.refl _ | refine Xt.Nw.drew ?_ | refine Xt.Nw.drewN ?_ _ | refine Xt.Nw.alloc ?_ _ | refine Xt.Nw.joined ?_ | refine Xt.Nw.drewd ?_ | refine Xt.Nw.drewdN ?_ | refine Xt.Nw.ext ?_ | refine Xt.Nw.ext_some ?_ (by assumption) | refine Xt.Nw.setCell ?_ (by simp [go_sem] <;> omega) _))) (HL.out.nw (by repeat (first | exact Xt.Nw.refl _ | refine Xt.Nw.drew ?_ | refine Xt.Nw.drewN ?_ _ | refine Xt.Nw.alloc ?_ _ | refine Xt.Nw.joined ?_ | refine Xt.Nw.drewd ?_ | refine Xt.Nw.drewdN ?_ | refine Xt.Nw.ext ?_ | refine Xt.Nw.ext_some ?_ (by assumption) | refine Xt.Nw.setCell ?_ (by simp [go_sem] <;> omega) _)))).mono ?_; rintro e w' ⟨rfl, dT, rfl⟩
      go_wp2_with fail
      refine wp_loop_rounds 1 ?_
      rw [rounds_succ]
      go_wp2_with fail
      refine (same_any _ _ _ _ _ _ l l _ hn hn (HX.out.nw (by repeat (first | exact Xt.Nw.refl _ | refine Xt.Nw.drew ?_ | refine Xt.Nw.drewN ?_ _ | refine Xt.Nw.alloc ?_ _ | refine Xt.Nw.joined ?_ | refine Xt.Nw.drewd ?_ | refine Xt.Nw.drewdN ?_ | refine Xt.Nw.ext ?_ | refine Xt.Nw.ext_some ?_ (by assumption) | refine Xt.Nw.setCell ?_ (by simp [go_sem] <;> omega) _))) (HL.out.nw (by repeat (first | exact Xt.Nw.refl _ | refine Xt.Nw.drew ?_ | refine Xt.Nw.drewN ?_ _ | refine Xt.Nw.alloc ?_ _ | refine Xt.Nw.joined ?_ | refine Xt.Nw.drewd ?_ | refine Xt.Nw.drewdN ?_ | refine Xt.Nw.ext ?_ | refine Xt.Nw.ext_some ?_ (by assumption) | refine Xt.Nw.setCell ?_ (by simp [go_sem] <;> omega) _)))).mono ?_; rintro e w' ⟨rfl, dU, rfl⟩
      go_wp2_with fail
      go_ret
      exact ⟨ret_bool (by simp), (by repeat (first | exact Xt.Nw.refl _ | refine Xt.Nw.drew ?_ | refine Xt.Nw.drewN ?_ _ | refine Xt.Nw.alloc ?_ _ | refine Xt.Nw.joined ?_ | refine Xt.Nw.drewd ?_ | refine Xt.Nw.drewdN ?_ | refine Xt.Nw.ext ?_ | refine Xt.Nw.ext_some ?_ (by assumption) | refine Xt.Nw.setCell ?_ (by simp [go_sem] <;> omega) _))⟩
    | true =>
      have HK := Lib.hid hok
      clear hok
      go_enter Try.func5, Try.ntmps5
      go_wp2_with (at_builtin; refine wpList_appS rfl _ _ 37 rfl 24 (.agg #[.int .u64 0, .int .u64 0]) 2 16 Try.underlying37 spanInfo rfl (by decide) w _ ((Nw.refl w).alloc _) _ 0 [] rfl (World.ownsRow_made _ _ _ (Nat.le_refl _) (by unfold maxLen; omega) rfl) _ n c (cells l) rfl (hrd.out.nw ((Nw.refl w).alloc _)) (cells_one l) (by unfold maxLen; omega) (by omega) ?_; intro v' d' hown' hnil)
      have hsp : Own _ _ v' l := own_cast hown' (by rw [Nat.zero_add]; exact H1.out.symm) (List.nil_append _)
      obtain ⟨Ax, cx, rfl, hspx⟩ := Own.form hsp
      have HX := Lib.hid hspx
      have HCX := Lib.hid (Own.nilcap hsp)
      have HXB : Hid (∀ b o, Ax = some ⟨b, o, none⟩ → b < (w.ext none d').heap.size) := fun b o h => by subst h; exact (hsp.lt b rfl).2
      clear hown' hsp hspx hnil
      have hlen : l.length = n := H1.out
      rw [hlen] at HX ⊢
      clear hlen
      go_wp2_with fail
      refine (norm_ok _ _ _ l _ (by omega) HCX.out (HX.out.nw (by repeat (first | exact Xt.Nw.refl _ | refine Xt.Nw.drew ?_ | refine Xt.Nw.drewN ?_ _ | refine Xt.Nw.alloc ?_ _ | refine Xt.Nw.joined ?_ | refine Xt.Nw.drewd ?_ | refine Xt.Nw.drewdN ?_ | refine Xt.Nw.ext ?_ | refine Xt.Nw.ext_some ?_ (by assumption) | refine Xt.Nw.setCell ?_ (by simp [go_sem] <;> omega) _))) HK.out HB.out).mono ?_
      rintro e w' ⟨Aa, ca, rfl, hspa, hnila, hfra, hca, dW, rfl⟩
      have HA := Lib.hid hspa
      have HFA := Lib.hid hfra
      clear hspa hnila hfra
      go_wp2_with fail
      refine (rnorm_ok _ _ _ l _ (by omega) (HL.out.nw (by repeat (first | exact Xt.Nw.refl _ | refine Xt.Nw.drew ?_ | refine Xt.Nw.drewN ?_ _ | refine Xt.Nw.alloc ?_ _ | refine Xt.Nw.joined ?_ | refine Xt.Nw.drewd ?_ | refine Xt.Nw.drewdN ?_ | refine Xt.Nw.ext ?_ | refine Xt.Nw.ext_some ?_ (by assumption) | refine Xt.Nw.setCell ?_ (by simp [go_sem] <;> omega) _))) HK.out HB.out).mono ?_
      rintro e w' ⟨Ab, cb, rfl, hspb, hnilb, hfrb, hcb, dV, rfl⟩
      have HBB := Lib.hid hspb
      clear hspb hnilb hfrb hcb
      have hnl : (Nm.norm l).length ≤ 60 := by have h1 := fold_len l []; have h2 := H1.out; simp at h1; show (l.foldl Nm.add []).length ≤ 60; omega
      go_wp2_with fail
      refine (same_any _ _ _ _ _ _ (Nm.norm l) (Nm.norm l) _ (by omega) (by omega) (HA.out.nw (by repeat (first | exact Xt.Nw.refl _ | refine Xt.Nw.drew ?_ | refine Xt.Nw.drewN ?_ _ | refine Xt.Nw.alloc ?_ _ | refine Xt.Nw.joined ?_ | refine Xt.Nw.drewd ?_ | refine Xt.Nw.drewdN ?_ | refine Xt.Nw.ext ?_ | refine Xt.Nw.ext_some ?_ (by assumption) | refine Xt.Nw.setCell ?_ (by simp [go_sem] <;> omega) _))) (HBB.out.nw (by repeat (first | exact Xt.Nw.refl _ | refine Xt.Nw.drew ?_ | refine Xt.Nw.drewN ?_ _ | refine Xt.Nw.alloc ?_ _ | refine Xt.Nw.joined ?_ | refine Xt.Nw.drewd ?_ | refine Xt.Nw.drewdN ?_ | refine Xt.Nw.ext ?_ | refine Xt.Nw.ext_some ?_ (by assumption) | refine Xt.Nw.setCell ?_ (by simp [go_sem] <;> omega) _)))).mono ?_; rintro e w' ⟨rfl, dS, rfl⟩
      go_wp2_with fail
      refine (same_any _ _ _ _ _ _ l l _ hn hn (HX.out.nw (by repeat (first | exact Xt.Nw.refl _ | refine Xt.Nw.drew ?_ | refine Xt.Nw.drewN ?_ _ | refine Xt.Nw.alloc ?_ _ | refine Xt.Nw.joined ?_ | refine Xt.Nw.drewd ?_ | refine Xt.Nw.drewdN ?_ | refine Xt.Nw.ext ?_ | refine Xt.Nw.ext_some ?_ (by assumption) | refine Xt.Nw.setCell ?_ (by simp [go_sem] <;> omega) _))) (HL.out.nw (by repeat (first | exact Xt.Nw.refl _ | refine Xt.Nw.drew ?_ | refine Xt.Nw.drewN ?_ _ | refine Xt.Nw.alloc ?_ _ | refine Xt.Nw.joined ?_ | refine Xt.Nw.drewd ?_ | refine Xt.Nw.drewdN ?_ | refine Xt.Nw.ext ?_ | refine Xt.Nw.ext_some ?_ (by assumption) | refine Xt.Nw.setCell ?_ (by simp [go_sem] <;> omega) _)))).mono ?_; rintro e w' ⟨rfl, dT, rfl⟩
      go_wp2_with fail
      go_loopw [8] (fun i wr => ∃ k : Nat, k ≤ (Nm.norm l).length ∧ i = .int .i64 k ∧ Nw w wr ∧ Sp wr Ax n l ∧ Sp wr A n l ∧ (0 < (Nm.norm l).length → ∃ g, Aa = some ⟨g, 0, none⟩ ∧ (w.ext none d').heap.size ≤ g ∧ In g wr ∧ (∀ j, wr.frozen? ⟨g, j, none⟩ = false) ∧ ∀ j, j < (Nm.norm l).length * 2 → ∃ u, wr.cell? ⟨g, j, none⟩ = some u)) (fun i _ => (Nm.norm l).length - (intOf i).toNat)
      case atStart =>
        refine ⟨0, Nat.zero_le _, rfl, (by repeat (first | exact Xt.Nw.refl _ | refine Xt.Nw.drew ?_ | refine Xt.Nw.drewN ?_ _ | refine Xt.Nw.alloc ?_ _ | refine Xt.Nw.joined ?_ | refine Xt.Nw.drewd ?_ | refine Xt.Nw.drewdN ?_ | refine Xt.Nw.ext ?_ | refine Xt.Nw.ext_some ?_ (by assumption) | refine Xt.Nw.setCell ?_ (by simp [go_sem] <;> omega) _)), HX.out.nw (by repeat (first | exact Xt.Nw.refl _ | refine Xt.Nw.drew ?_ | refine Xt.Nw.drewN ?_ _ | refine Xt.Nw.alloc ?_ _ | refine Xt.Nw.joined ?_ | refine Xt.Nw.drewd ?_ | refine Xt.Nw.drewdN ?_ | refine Xt.Nw.ext ?_ | refine Xt.Nw.ext_some ?_ (by assumption) | refine Xt.Nw.setCell ?_ (by simp [go_sem] <;> omega) _)), HL.out.nw (by repeat (first | exact Xt.Nw.refl _ | refine Xt.Nw.drew ?_ | refine Xt.Nw.drewN ?_ _ | refine Xt.Nw.alloc ?_ _ | refine Xt.Nw.joined ?_ | refine Xt.Nw.drewd ?_ | refine Xt.Nw.drewdN ?_ | refine Xt.Nw.ext ?_ | refine Xt.Nw.ext_some ?_ (by assumption) | refine Xt.Nw.setCell ?_ (by simp [go_sem] <;> omega) _)), fun hp => ?_⟩
        obtain ⟨g, rfl, hg, hfz⟩ := HFA.out hp
        obtain ⟨b, o, h1, h2, h3⟩ := HA.out.2 hp
        injection h1 with h1; injection h1 with h4 h5; subst h4 h5
        haveI : In g (((w.ext none d').ext none dW)) := ⟨h2⟩
        refine ⟨g, rfl, hg, inferInstance, fun j => ?_, fun j hj => ?_⟩
        · simp only [go_sem]; exact hfz j
        · simp only [go_sem]
          have hi : j / 2 < (Nm.norm l).length := by omega
          obtain ⟨c0, c1⟩ := h3 (j / 2) _ (List.getElem?_eq_getElem hi)
          rcases Nat.mod_two_eq_zero_or_one j with h0 | h0
          · exact ⟨_, by have e : 0 + j / 2 * 2 = j := by omega
                         rw [e] at c0; exact c0⟩
          · exact ⟨_, by have e : 0 + j / 2 * 2 + 1 = j := by omega
                         rw [e] at c1; exact c1⟩
      case round =>
        obtain ⟨k, hk, rfl, hnw, hx, ha, hrow⟩ := hrel
        by_cases hlt : k < (Nm.norm l).length
        · obtain ⟨g, rfl, hg, hin, hfz, hcs⟩ := hrow (by omega)
          obtain ⟨u0, e0⟩ := hcs (k * 2) (by omega)
          obtain ⟨u1, e1⟩ := hcs (k * 2 + 1) (by omega)
          have HCS := Lib.hid hcs
          have HX2 := Lib.hid hx
          have HA2 := Lib.hid ha
          clear hcs hx ha hrow
          have hAB : 0 < n → ∀ b o, A = some ⟨b, o, none⟩ → b < (w.ext none d').heap.size := fun hp b o h => by
            obtain ⟨b', o', h1, h2, _⟩ := HL.out.2 hp
            rw [h1] at h; injection h with h; injection h with h3 h4; subst h3
            exact Nat.lt_of_lt_of_le h2 (le_size _ _ _)
          have HAB := Lib.hid hAB
          clear hAB
          have hgw : w.heap.size ≤ g := Nat.le_trans (le_size w none d') hg
          go_wp2
          refine ⟨⟨k + 1, by omega, by go_num, (hnw.setCell hgw _).setCell hgw _, (HX2.out.setCell (fun _ => HXB.out) hg _).setCell (fun _ => HXB.out) hg _, (HA2.out.setCell HAB.out hg _).setCell HAB.out hg _, fun _ => ⟨g, rfl, hg, inferInstance, fun j => by simp [hfz], fun j hj => ?_⟩⟩, by simp [intOf]; omega⟩
          obtain ⟨u, hu⟩ := HCS.out j hj
          by_cases h1 : j = k * 2 + 1
          · subst h1
            exact ⟨_, World.cell?_setCell_same _ _ _ (u := u) (by rw [World.cell?_setCell_other _ _ _ _ (fun e => by injection e with _ e; omega)]; exact hu)⟩
          · rw [World.cell?_setCell_other _ _ _ _ (fun e => by injection e with _ e; omega)]
            by_cases h2 : j = k * 2
            · subst h2; exact ⟨_, World.cell?_setCell_same _ _ _ hu⟩
            · rw [World.cell?_setCell_other _ _ _ _ (fun e => by injection e with _ e; omega)]
              exact ⟨u, hu⟩
        · have HX2 := Lib.hid hx
          have HA2 := Lib.hid ha
          clear hx ha hrow
          obtain ⟨dZ, rfl⟩ := hnw
          go_wp2_with fail
          refine (same_any _ _ _ _ _ _ l l _ hn hn (HX2.out.nw (by repeat (first | exact Xt.Nw.refl _ | refine Xt.Nw.drew ?_ | refine Xt.Nw.drewN ?_ _ | refine Xt.Nw.alloc ?_ _ | refine Xt.Nw.joined ?_ | refine Xt.Nw.drewd ?_ | refine Xt.Nw.drewdN ?_ | refine Xt.Nw.ext ?_ | refine Xt.Nw.ext_some ?_ (by assumption) | refine Xt.Nw.setCell ?_ (by simp [go_sem] <;> omega) _))) (HA2.out.nw (by repeat (first | exact Xt.Nw.refl _ | refine Xt.Nw.drew ?_ | refine Xt.Nw.drewN ?_ _ | refine Xt.Nw.alloc ?_ _ | refine Xt.Nw.joined ?_ | refine Xt.Nw.drewd ?_ | refine Xt.Nw.drewdN ?_ | refine Xt.Nw.ext ?_ | refine Xt.Nw.ext_some ?_ (by assumption) | refine Xt.Nw.setCell ?_ (by simp [go_sem] <;> omega) _)))).mono ?_; rintro e w' ⟨rfl, dU, rfl⟩
          go_wp2_with fail
          go_ret
          exact ⟨ret_bool (by simp), (by repeat (first | exact Xt.Nw.refl _ | refine Xt.Nw.drew ?_ | refine Xt.Nw.drewN ?_ _ | refine Xt.Nw.alloc ?_ _ | refine Xt.Nw.joined ?_ | refine Xt.Nw.drewd ?_ | refine Xt.Nw.drewdN ?_ | refine Xt.Nw.ext ?_ | refine Xt.Nw.ext_some ?_ (by assumption) | refine Xt.Nw.setCell ?_ (by simp [go_sem] <;> omega) _))⟩
end Go.Proofs.Ytdhinclpmmpkhaa
