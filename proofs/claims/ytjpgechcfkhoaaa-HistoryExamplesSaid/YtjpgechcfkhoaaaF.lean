import Derived.Test.YtjpgechcfkhoaaaE
import Derived.Deep.DeepCutAuto
namespace Go.Proofs.Ytjpgechcfkhoaaa
open Go.RowKit Go.Xt
def ordF (p : List Cl) (x : Cl) : Bool := decide (0 ≤ x.th) && (decide (x.th < 64) && (decide (x.ix = ((ofT x.th p).length : Nat)) && (decide (0 ≤ x.inv) && match p.getLast? with | some z => decide (z.inv < x.inv) | none => true)))
def aftF (p : List Cl) (x : Cl) : Bool := match (ofT x.th p).getLast? with | some z => bf z x | none => true
def apaF (p : List Cl) (x : Cl) : Bool := p.all fun y => y.th == x.th || !meetF y x
def goodP (p : List Cl) (x : Cl) : Bool := ordF p x && (effF x && (endF x && (aftF p x && apaF p x)))
theorem take_last {l : List Cl} {j : Nat} {z : Cl} (h : l[j]? = some z) : (l.take (j + 1)).getLast? = some z := by
  obtain ⟨p1, q1⟩ := List.getElem?_eq_some_iff.1 h
  rw [List.take_succ_eq_append_getElem p1, q1]; simp
theorem all_take {α : Type} (p : α → Bool) {l : List α} {k : Nat} {x : α} (hx : l[k]? = some x) : (l.take (k + 1)).all p = ((l.take k).all p && p x) := by
  obtain ⟨p1, q1⟩ := List.getElem?_eq_some_iff.1 hx
  rw [List.take_succ_eq_append_getElem p1, List.all_append, q1]; simp
set_option maxRecDepth 20000 in
set_option maxHeartbeats 8000000 in
theorem good_any (A : Option Addr) (n c i : Nat) (x : Cl) (l : List Cl) (w : World) (hn : n ≤ 1000) (hi : i < n) (hx : l[i]? = some x) (hl : Cs w A n l) (hw : ∀ y ∈ l, WfC y) :
    Calls Try.prog 38 #[.slice A n c, .int .i64 i] w fun e w' => e = .returned (.bool (goodP (l.take i) x)) ∧ Nw w w' := by
  obtain ⟨b, o, y, rfl, hb, hy, hcy⟩ := hl.get hi
  obtain rfl : x = y := by rw [hx] at hy; injection hy
  haveI : In b w := ⟨hb⟩
  haveI : CallAt w b (o + i * 18) x := ⟨hcy, hb⟩
  have HL := Lib.hid hl
  have HX := Lib.hid hx
  have hlen := hl.1
  have HW := Lib.hid hw
  have wx : WfC x := hw x (List.mem_of_getElem? hx)
  have hlast := Lib.hid (fun W (h : Cs W (some ⟨b, o, none⟩) n l) => last_any (some ⟨b, o, none⟩) n c i x l W hn hi hx h)
  obtain ⟨m, hm⟩ : ∃ m : Nat, (ofT x.th (l.take i)).length = m := ⟨_, rfl⟩
  obtain ⟨q, hq⟩ : ∃ q : Int, lastAt x.th l i = q := ⟨_, rfl⟩
  have HM := Lib.hid hm; have HQ := Lib.hid hq
  rw [hm, hq] at hlast
  obtain ⟨wx1, wx2, wx3, wx4, wx5, wx6⟩ := wx
  have wx0 := Lib.hid (hw x (List.mem_of_getElem? hx))
  clear hl hx hy hcy hw hm hq
  go_enter Try.func38, Try.ntmps38
  go_upto_region 3 with (go_at_call 45; refine (hlast.out _ (HL.out.nw ((by repeat (first | exact Xt.Nw.refl _ | refine Xt.Nw.drew ?_ | refine Xt.Nw.drewN ?_ _ | refine Xt.Nw.alloc ?_ _ | refine Xt.Nw.joined ?_ | refine Xt.Nw.drewd ?_ | refine Xt.Nw.drewdN ?_ | refine Xt.Nw.ext ?_ | refine Xt.Nw.ext_some ?_ (by assumption) | refine Xt.Nw.setCell ?_ (by simp [go_sem] <;> omega) _))))).mono ?_; rintro e w' ⟨rfl, dW, rfl⟩)
  go_cut [52] (fun v wx => v = .bool (!ordF (l.take i) x) ∧ Nw (w.alloc (.cells #[.int .i64 x.th, .int .i64 x.ix, .int .u8 x.kd, .int .u64 x.ka, .int .u64 x.kb, .int .u64 x.kc, .int .u64 x.kx, .int .u64 x.ky, .int .u64 x.kz, .int .i64 x.inv, .int .i64 x.took, .int .i64 x.ans, .int .i64 x.st, .int .i64 x.re, .bool x.rf, .int .u64 x.rk, .int .u64 x.rv, .int .i64 x.rc] 47)) wx)
  case first =>
    have hpl : i = 0 ∨ ∃ (j : Nat) (z : Cl), i = j + 1 ∧ (l.take i).getLast? = some z ∧ w.cell? ⟨b, o + j * 18 + 9, none⟩ = some (.int .i64 z.inv) := by
      rcases Nat.eq_zero_or_pos i with h | h
      · exact .inl h
      · obtain ⟨j, rfl⟩ : ∃ j, i = j + 1 := ⟨i - 1, by omega⟩
        obtain ⟨b', o', z, e1, _, hz, hcz⟩ := HL.out.get (show j < n by omega)
        obtain ⟨rfl, rfl⟩ : b = b' ∧ o = o' := by simpa using e1
        obtain ⟨_, _, _, _, _, _, _, _, _, h9, _⟩ := hcz
        exact .inr ⟨j, z, rfl, take_last hz, h9⟩
    by_cases g1 : x.th < 0
    · have d1 : decide (x.th < 0) = true := by simpa using g1
      (refine wp_region_nw (by kernel_rfl) (by kernel_rfl) ?_; (repeat (go_big_quiet_step (fail))); refine wpQuiet_nil ?_; intro _ hreg; obtain ⟨dW, rfl⟩ : Nw _ _ := hreg)
      go_wp2
      go_meet
      refine ⟨by simp [ordF, show ¬ 0 ≤ x.th by omega], ?_⟩
      exact (Nw.refl _).ext.ext
    · have d1 : decide (x.th < 0) = false := by simpa using g1
      by_cases g2 : 64 ≤ x.th
      · have d2 : decide (64 ≤ x.th) = true := by simpa using g2
        (refine wp_region_nw (by kernel_rfl) (by kernel_rfl) ?_; (repeat (go_big_quiet_step (fail))); refine wpQuiet_nil ?_; intro _ hreg; obtain ⟨dW, rfl⟩ : Nw _ _ := hreg)
        go_wp2
        go_meet
        exact ⟨by simp [ordF, show ¬ x.th < 64 by omega], (Nw.refl _).ext.ext⟩
      · have d2 : decide (64 ≤ x.th) = false := by simp; omega
        by_cases g3 : x.ix = (m : Int)
        · have d3 : (x.ix != (m : Int)) = false := by simpa using g3
          have G3 := Lib.hid g3
          clear g3
          by_cases g4 : x.inv < 0
          · have d4 : decide (x.inv < 0) = true := by simpa using g4
            (refine wp_region_nw (by kernel_rfl) (by kernel_rfl) ?_; (repeat (go_big_quiet_step (fail))); refine wpQuiet_nil ?_; intro _ hreg; obtain ⟨dW, rfl⟩ : Nw _ _ := hreg)
            go_wp2
            go_meet
            exact ⟨by simp [ordF, show ¬ 0 ≤ x.inv by omega], (Nw.refl _).ext.ext⟩
          · have d4 : decide (x.inv < 0) = false := by simp; omega
            rcases hpl with rfl | ⟨j, z, hij, hz, hcz⟩
            · (refine wp_region_nw (by kernel_rfl) (by kernel_rfl) ?_; (repeat (go_big_quiet_step (fail))); refine wpQuiet_nil ?_; intro _ hreg; obtain ⟨dW, rfl⟩ : Nw _ _ := hreg)
              go_wp2
              go_meet
              refine ⟨?_, (Nw.refl _).ext.ext⟩
              have h1 := HM.out
              have g3 := G3.out
              rw [ordF, h1, ← g3]; simp; omega
            · have hji : IntKind.i64.wrap ((i : Int) - 1) = (j : Int) := by rw [IntKind.wrap_i64] <;> omega
              have di : decide (0 < (i : Int)) = true := by simp; omega
              have di2 : 0 < i := by omega
              have hji2 : (i : Int) - 1 = (j : Int) := by omega
              have hjn : (j : Int) < (n : Int) := by omega
              have HIJ := Lib.hid hij
              clear hij
              by_cases g5 : x.inv ≤ z.inv
              · have d5 : decide (x.inv ≤ z.inv) = true := by simpa using g5
                (refine wp_region_nw (by kernel_rfl) (by kernel_rfl) ?_; (repeat (go_big_quiet_step (fail))); refine wpQuiet_nil ?_; intro _ hreg; obtain ⟨dW, rfl⟩ : Nw _ _ := hreg)
                go_wp2
                go_meet
                refine ⟨?_, (Nw.refl _).ext.ext⟩
                rw [ordF, hz]; simp; omega
              · have d5 : decide (x.inv ≤ z.inv) = false := by simp; omega
                (refine wp_region_nw (by kernel_rfl) (by kernel_rfl) ?_; (repeat (go_big_quiet_step (fail))); refine wpQuiet_nil ?_; intro _ hreg; obtain ⟨dW, rfl⟩ : Nw _ _ := hreg)
                go_wp2
                go_meet
                refine ⟨?_, (Nw.refl _).ext.ext⟩
                have h1 := HM.out
                have g3 := G3.out
                rw [ordF, h1, ← g3, hz]; simp; omega
        · have d3 : (x.ix != (m : Int)) = true := by simpa using g3
          (refine wp_region_nw (by kernel_rfl) (by kernel_rfl) ?_; (repeat (go_big_quiet_step (fail))); refine wpQuiet_nil ?_; intro _ hreg; obtain ⟨dW, rfl⟩ : Nw _ _ := hreg)
          go_wp2
          go_meet
          refine ⟨?_, (Nw.refl _).ext.ext⟩
          have h1 := HM.out
          rw [ordF, h1]; simp; omega
  case rest =>
    obtain ⟨hv52, dW, rfl⟩ := hcut
    subst hv52
    cases ho : ordF (l.take i) x with
    | false =>
      have HO := Lib.hid ho
      clear ho
      go_wp2
      go_ret
      refine ⟨ret_bool ?_, (by repeat (first | exact Xt.Nw.refl _ | refine Xt.Nw.drew ?_ | refine Xt.Nw.drewN ?_ _ | refine Xt.Nw.alloc ?_ _ | refine Xt.Nw.joined ?_ | refine Xt.Nw.drewd ?_ | refine Xt.Nw.drewdN ?_ | refine Xt.Nw.ext ?_ | refine Xt.Nw.ext_some ?_ (by assumption) | refine Xt.Nw.setCell ?_ (by simp [go_sem] <;> omega) _))⟩
      rw [goodP, HO.out]; rfl
    | true =>
      have hinv : 0 ≤ x.inv := by simp [ordF] at ho; omega
      have HO := Lib.hid ho
      clear ho
      go_upto_region 5 with fail
      go_cut [80] (fun v wx => v = .bool (!(effF x && (endF x && aftF (l.take i) x))) ∧ Nw (w.alloc (.cells #[.int .i64 x.th, .int .i64 x.ix, .int .u8 x.kd, .int .u64 x.ka, .int .u64 x.kb, .int .u64 x.kc, .int .u64 x.kx, .int .u64 x.ky, .int .u64 x.kz, .int .i64 x.inv, .int .i64 x.took, .int .i64 x.ans, .int .i64 x.st, .int .i64 x.re, .bool x.rf, .int .u64 x.rk, .int .u64 x.rv, .int .i64 x.rc] 47)) wx)
      case first =>
        have hans := Lib.hid (fun W => answered_any x W wx0.out hinv)
        have hq := lastAt_of x.th l i (by omega)
        have hq0 := HQ.out
        rw [hq0] at hq
        have hcase : (effF x = false ∧ (x.took != -1) = true ∧ decide (x.took < x.inv) = true) ∨ (effF x = true ∧ (x.took != -1) = true ∧ decide (x.took < x.inv) = false) ∨ (effF x = true ∧ (x.took != -1) = false) := by
          unfold effF
          by_cases h1 : x.took = -1
          · exact .inr (.inr (by simp [h1]))
          · by_cases h2 : x.took < x.inv
            · exact .inl (by simp [h1, h2])
            · exact .inr (.inl (by simp [h1, h2]; omega))
        rcases hcase with ⟨h1, h2, h3⟩ | hok
        · have H1 := Lib.hid h1
          clear h1 hq hq0
          (refine wp_region_nw (by kernel_rfl) (by kernel_rfl) ?_; (repeat (go_big_quiet_step (fail))); refine wpQuiet_nil ?_; intro _ hreg; obtain ⟨dW, rfl⟩ : Nw _ _ := hreg)
          go_wp2
          go_meet
          refine ⟨?_, (Nw.refl _).ext.ext⟩
          rw [H1.out]; rfl
        · cases he : endF x with
          | false =>
            rw [he] at hans
            have HE := Lib.hid he
            clear he hq hq0
            rcases hok with ⟨h1, h2, h3⟩ | ⟨h1, h2⟩
            · have H1 := Lib.hid h1
              clear h1
              (refine wp_region_nw (by kernel_rfl) (by kernel_rfl) ?_; (repeat (go_big_quiet_step ((go_at_call 46; exact quiet_of (hans.out _))))); refine wpQuiet_nil ?_; intro _ hreg; obtain ⟨dW, rfl⟩ : Nw _ _ := hreg)
              go_wp2
              go_meet
              refine ⟨?_, (Nw.refl _).ext.ext⟩
              rw [H1.out, HE.out]; rfl
            · have H1 := Lib.hid h1
              clear h1
              (refine wp_region_nw (by kernel_rfl) (by kernel_rfl) ?_; (repeat (go_big_quiet_step ((go_at_call 46; exact quiet_of (hans.out _))))); refine wpQuiet_nil ?_; intro _ hreg; obtain ⟨dW, rfl⟩ : Nw _ _ := hreg)
              go_wp2
              go_meet
              refine ⟨?_, (Nw.refl _).ext.ext⟩
              rw [H1.out, HE.out]; rfl
          | true =>
            rw [he] at hans
            have HE := Lib.hid he
            clear he hq0
            rcases hq with ⟨rfl, hlst⟩ | ⟨j, z, rfl, hz, hlst⟩
            · have HT : Hid (aftF (l.take i) x = true) := by show _ = _; rw [aftF, hlst]; rfl
              clear hlst
              rcases hok with ⟨h1, h2, h3⟩ | ⟨h1, h2⟩
              · have H1 := Lib.hid h1
                clear h1
                (refine wp_region_nw (by kernel_rfl) (by kernel_rfl) ?_; (repeat (go_big_quiet_step ((go_at_call 46; exact quiet_of (hans.out _))))); refine wpQuiet_nil ?_; intro _ hreg; obtain ⟨dW, rfl⟩ : Nw _ _ := hreg)
                go_wp2
                go_meet
                refine ⟨?_, (Nw.refl _).ext.ext⟩
                rw [H1.out, HE.out, HT.out]; rfl
              · have H1 := Lib.hid h1
                clear h1
                (refine wp_region_nw (by kernel_rfl) (by kernel_rfl) ?_; (repeat (go_big_quiet_step ((go_at_call 46; exact quiet_of (hans.out _))))); refine wpQuiet_nil ?_; intro _ hreg; obtain ⟨dW, rfl⟩ : Nw _ _ := hreg)
                go_wp2
                go_meet
                refine ⟨?_, (Nw.refl _).ext.ext⟩
                rw [H1.out, HE.out, HT.out]; rfl
            · have hjl : j < l.length := (List.getElem?_eq_some_iff.1 hz).1
              obtain ⟨b', o', z', e1, hb', hz', hcz⟩ := HL.out.get (show j < n by omega)
              obtain ⟨rfl, rfl⟩ : b = b' ∧ o = o' := by simpa using e1
              obtain rfl : z = z' := by rw [hz] at hz'; injection hz'
              haveI : CallAt w b (o + j * 18) z := ⟨hcz, hb⟩
              have hjn : (j : Int) < (n : Int) := by omega
              have hbf := Lib.hid (fun W => rbefore_any z x W)
              have HT : Hid (aftF (l.take i) x = bf z x) := by show _ = _; rw [aftF, hlst]
              clear hlst hz hz' hcz e1 hjl hb'
              rcases hok with ⟨h1, h2, h3⟩ | ⟨h1, h2⟩
              · have H1 := Lib.hid h1
                clear h1
                (refine wp_region_nw (by kernel_rfl) (by kernel_rfl) ?_; (repeat (go_big_quiet_step (first | (go_at_call 46; exact quiet_of (hans.out _)) | (go_at_call 44; exact quiet_of (hbf.out _))))); refine wpQuiet_nil ?_; intro _ hreg; obtain ⟨dW, rfl⟩ : Nw _ _ := hreg)
                go_wp2
                go_meet
                refine ⟨?_, (Nw.refl _).ext.ext⟩
                rw [H1.out, HE.out, HT.out]; rfl
              · have H1 := Lib.hid h1
                clear h1
                (refine wp_region_nw (by kernel_rfl) (by kernel_rfl) ?_; (repeat (go_big_quiet_step (first | (go_at_call 46; exact quiet_of (hans.out _)) | (go_at_call 44; exact quiet_of (hbf.out _))))); refine wpQuiet_nil ?_; intro _ hreg; obtain ⟨dW, rfl⟩ : Nw _ _ := hreg)
                go_wp2
                go_meet
                refine ⟨?_, (Nw.refl _).ext.ext⟩
                rw [H1.out, HE.out, HT.out]; rfl
      case rest =>
        obtain ⟨hv80, dW, rfl⟩ := hcut
        subst hv80
        cases hr : (effF x && (endF x && aftF (l.take i) x)) with
        | false =>
          have HR := Lib.hid hr
          clear hr
          go_wp2
          go_ret
          refine ⟨ret_bool ?_, (by repeat (first | exact Xt.Nw.refl _ | refine Xt.Nw.drew ?_ | refine Xt.Nw.drewN ?_ _ | refine Xt.Nw.alloc ?_ _ | refine Xt.Nw.joined ?_ | refine Xt.Nw.drewd ?_ | refine Xt.Nw.drewdN ?_ | refine Xt.Nw.ext ?_ | refine Xt.Nw.ext_some ?_ (by assumption) | refine Xt.Nw.setCell ?_ (by simp [go_sem] <;> omega) _))⟩
          have h1 := HR.out
          rw [goodP, HO.out]
          cases e1 : effF x <;> cases e2 : endF x <;> cases e3 : aftF (l.take i) x <;> simp_all
        | true =>
          have HR := Lib.hid hr
          clear hr
          have hmeet := Lib.hid (fun y W => meet_any y x W)
          go_wp2
          go_loopw [8] (fun a wr => ∃ k : Nat, k ≤ i ∧ a = .int .i64 k ∧ Hid (((l.take k).all fun y => y.th == x.th || !meetF y x) = true) ∧ Nw (w.alloc (.cells #[.int .i64 x.th, .int .i64 x.ix, .int .u8 x.kd, .int .u64 x.ka, .int .u64 x.kb, .int .u64 x.kc, .int .u64 x.kx, .int .u64 x.ky, .int .u64 x.kz, .int .i64 x.inv, .int .i64 x.took, .int .i64 x.ans, .int .i64 x.st, .int .i64 x.re, .bool x.rf, .int .u64 x.rk, .int .u64 x.rv, .int .i64 x.rc] 47)) wr) (fun a _ => i - (intOf a).toNat)
          case atStart => exact ⟨0, by omega, rfl, rfl, (Nw.refl _).ext⟩
          case round =>
            obtain ⟨k, hk, rfl, hall, d, rfl⟩ := hrel
            by_cases hlt : k < i
            · obtain ⟨b', o', y, e1, hb', hy, hcy⟩ := HL.out.get (show k < n by omega)
              obtain ⟨rfl, rfl⟩ : b = b' ∧ o = o' := by simpa using e1
              haveI : CallAt w b (o + k * 18) y := ⟨hcy, hb⟩
              have cy := hcy.1
              have HY := Lib.hid hy
              have hkn : (k : Int) < (n : Int) := by omega
              clear hy hcy e1 hb'
              by_cases he : y.th = x.th
              · have he' : (y.th != x.th) = false := by simpa using he
                have HE := Lib.hid he
                clear he
                go_wp2
                (refine wp_region_nw (by kernel_rfl) (by kernel_rfl) ?_; (repeat (go_big_quiet_step (fail))); refine wpQuiet_nil ?_; intro _ hreg; obtain ⟨dW, rfl⟩ : Nw _ _ := hreg)
                go_wp2
                refine ⟨⟨k + 1, by omega, by go_num, ?_, (by repeat (first | exact Xt.Nw.refl _ | refine Xt.Nw.drew ?_ | refine Xt.Nw.drewN ?_ _ | refine Xt.Nw.alloc ?_ _ | refine Xt.Nw.joined ?_ | refine Xt.Nw.drewd ?_ | refine Xt.Nw.drewdN ?_ | refine Xt.Nw.ext ?_ | refine Xt.Nw.ext_some ?_ (by assumption) | refine Xt.Nw.setCell ?_ (by simp [go_sem] <;> omega) _))⟩, by simp [intOf]; omega⟩
                show _ = _
                rw [all_take _ HY.out, hall.out, HE.out]; simp
              · have he' : (y.th != x.th) = true := by simpa using he
                have HE := Lib.hid he
                clear he
                have hmy := Lib.hid (fun W => meet_any y x W)
                cases hmm : meetF y x with
                | true =>
                  rw [hmm] at hmy
                  have HMM := Lib.hid hmm
                  clear hmm
                  go_wp2
                  (refine wp_region_nw (by kernel_rfl) (by kernel_rfl) ?_; (repeat (go_big_quiet_step ((go_at_call 47; exact quiet_of (hmy.out _))))); refine wpQuiet_nil ?_; intro _ hreg; obtain ⟨dW, rfl⟩ : Nw _ _ := hreg)
                  go_wp2
                  go_ret
                  refine ⟨ret_bool ?_, (by repeat (first | exact Xt.Nw.refl _ | refine Xt.Nw.drew ?_ | refine Xt.Nw.drewN ?_ _ | refine Xt.Nw.alloc ?_ _ | refine Xt.Nw.joined ?_ | refine Xt.Nw.drewd ?_ | refine Xt.Nw.drewdN ?_ | refine Xt.Nw.ext ?_ | refine Xt.Nw.ext_some ?_ (by assumption) | refine Xt.Nw.setCell ?_ (by simp [go_sem] <;> omega) _))⟩
                  have h1 : apaF (l.take i) x = false := by
                    unfold apaF
                    rw [List.all_eq_false]
                    refine ⟨y, ?_, by simp [HE.out, HMM.out]⟩
                    have h2 : (l.take i)[k]? = some y := by rw [List.getElem?_take, if_pos hlt]; exact HY.out
                    exact List.mem_of_getElem? h2
                  rw [goodP, h1]; simp
                | false =>
                  rw [hmm] at hmy
                  have HMM := Lib.hid hmm
                  clear hmm
                  go_wp2
                  (refine wp_region_nw (by kernel_rfl) (by kernel_rfl) ?_; (repeat (go_big_quiet_step ((go_at_call 47; exact quiet_of (hmy.out _))))); refine wpQuiet_nil ?_; intro _ hreg; obtain ⟨dW, rfl⟩ : Nw _ _ := hreg)
                  go_wp2
                  refine ⟨⟨k + 1, by omega, by go_num, ?_, (by repeat (first | exact Xt.Nw.refl _ | refine Xt.Nw.drew ?_ | refine Xt.Nw.drewN ?_ _ | refine Xt.Nw.alloc ?_ _ | refine Xt.Nw.joined ?_ | refine Xt.Nw.drewd ?_ | refine Xt.Nw.drewdN ?_ | refine Xt.Nw.ext ?_ | refine Xt.Nw.ext_some ?_ (by assumption) | refine Xt.Nw.setCell ?_ (by simp [go_sem] <;> omega) _))⟩, by simp [intOf]; omega⟩
                  show _ = _
                  rw [all_take _ HY.out, hall.out, HMM.out]; simp
            · have hki : k = i := by omega
              go_wp2
              go_ret
              refine ⟨ret_bool ?_, (by repeat (first | exact Xt.Nw.refl _ | refine Xt.Nw.drew ?_ | refine Xt.Nw.drewN ?_ _ | refine Xt.Nw.alloc ?_ _ | refine Xt.Nw.joined ?_ | refine Xt.Nw.drewd ?_ | refine Xt.Nw.drewdN ?_ | refine Xt.Nw.ext ?_ | refine Xt.Nw.ext_some ?_ (by assumption) | refine Xt.Nw.setCell ?_ (by simp [go_sem] <;> omega) _))⟩
              have h1 := hall.out
              rw [hki] at h1
              have h2 := HR.out
              have h3 : apaF (l.take i) x = true := h1
              rw [goodP, HO.out, h3]
              cases e1 : effF x <;> cases e2 : endF x <;> cases e3 : aftF (l.take i) x <;> simp_all
end Go.Proofs.Ytjpgechcfkhoaaa
