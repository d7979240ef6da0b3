import Derived.Test.YtjpgechcfkhoaaaV
namespace Go.Proofs.Ytjpgechcfkhoaaa
open Go.RowKit Go.Xt
instance callAt_gen {w : World} {T : TypeId} (a0 a1 a2 a3 a4 a5 a6 a7 a8 a9 a10 a11 a12 a13 : Int) (a14 : Bool) (a15 a16 a17 : Int) : CallAt (w.alloc (.cells #[.int .i64 a0, .int .i64 a1, .int .u8 a2, .int .u64 a3, .int .u64 a4, .int .u64 a5, .int .u64 a6, .int .u64 a7, .int .u64 a8, .int .i64 a9, .int .i64 a10, .int .i64 a11, .int .i64 a12, .int .i64 a13, .bool a14, .int .u64 a15, .int .u64 a16, .int .i64 a17] T)) w.heap.size 0 ⟨a0, a1, a2, a3, a4, a5, a6, a7, a8, a9, a10, a11, a12, a13, a14, a15, a16, a17⟩ :=
  ⟨boxed w ⟨a0, a1, a2, a3, a4, a5, a6, a7, a8, a9, a10, a11, a12, a13, a14, a15, a16, a17⟩ T, by simp⟩
@[go_sem] theorem run_build1g (a0 a1 a2 a3 a4 a5 a6 a7 a8 a9 a10 a11 a12 a13 : Int) (a14 : Bool) (a15 a16 a17 : Int) (w : World) : (buildCalls 1 #[(0, .agg #[.int .i64 a0, .int .i64 a1, .int .u8 a2, .int .u64 a3, .int .u64 a4, .int .u64 a5, .int .u64 a6, .int .u64 a7, .int .u64 a8, .int .i64 a9, .int .i64 a10, .int .i64 a11, .int .i64 a12, .int .i64 a13, .bool a14, .int .u64 a15, .int .u64 a16, .int .i64 a17])]).run Try.prog w = .ok (.slice (some ⟨w.heap.size, 0, none⟩) 1 1) (w.alloc (.cells #[.int .i64 a0, .int .i64 a1, .int .u8 a2, .int .u64 a3, .int .u64 a4, .int .u64 a5, .int .u64 a6, .int .u64 a7, .int .u64 a8, .int .i64 a9, .int .i64 a10, .int .i64 a11, .int .i64 a12, .int .i64 a13, .bool a14, .int .u64 a15, .int .u64 a16, .int .i64 a17] 47)) :=
  run_build1 w ⟨a0, a1, a2, a3, a4, a5, a6, a7, a8, a9, a10, a11, a12, a13, a14, a15, a16, a17⟩
theorem chk_cases (l : List Cl) : (bad l = none ∧ chkV l = .tuple #[.int .i64 0, .int .i64 0]) ∨ (∃ i : Nat, bad l = some i ∧ chkV l = .tuple #[.int .i64 (i : Int), .int .i64 15]) := by
  cases h : bad l with
  | none => exact .inl ⟨rfl, by rw [chkV, h]⟩
  | some i => exact .inr ⟨i, rfl, by rw [chkV, h]⟩
/-- A call as it was after a step. -/
def pfx (s : Int) (x : Cl) : Cl :=
  let y : Cl := if s < x.took then { x with took := -1 } else x
  if s < x.ans then { y with ans := -1, st := 0, re := 0, rf := false, rk := 0, rv := 0, rc := 0 } else y
def preE (s : Int) (l : List Cl) : Int := if bad l = none then (if s < -1 then 3 else 0) else 15
def pres (s : Int) (l : List Cl) : List Cl := (l.takeWhile fun x => decide (x.inv ≤ s)).map (pfx s)
def preW (s : Int) (l : List Cl) : List Cl := if preE s l = 0 then pres s l else []
theorem pres_cons (s : Int) {l : List Cl} {k : Nat} {x : Cl} (hx : l[k]? = some x) : pres s (l.drop k) = if x.inv ≤ s then pfx s x :: pres s (l.drop (k + 1)) else [] := by
  obtain ⟨p1, q1⟩ := List.getElem?_eq_some_iff.1 hx
  rw [List.drop_eq_getElem_cons p1, q1, pres, List.takeWhile_cons]
  by_cases h : x.inv ≤ s <;> simp [h, pres]
set_option maxRecDepth 20000 in
set_option maxHeartbeats 4000000 in
theorem prefix_any (s : Int) (A : Option Addr) (n c : Nat) (l : List Cl) (w : World) (hn : n ≤ 1000) (hc : n ≤ c) (hcm : c ≤ 9223372036854775807) (hl : Cs w A n l) (hw : ∀ y ∈ l, WfC y) :
    Calls Try.prog 19 #[.int .i64 s, .slice A n c] w fun e w' => ∃ v, e = .returned (.tuple #[v, .int .i64 (preE s l)]) ∧ OwnC w' w.heap.size v (preW s l) ∧ Nw w w' := by
  have HK := Lib.hid (check_any A n c l w hn hc hcm hl hw)
  have HL := Lib.hid hl
  have hlen := hl.1
  clear hl hw
  rcases chk_cases l with ⟨hb, hv⟩ | ⟨i, hb, hv⟩
  · rw [hv] at HK
    by_cases hs : s < -1
    · have hE : preE s l = 3 := by simp [preE, hb, hs]
      have hW : preW s l = [] := by simp [preW, hE]
      have HB := Lib.hid hb
      clear hb hv
      go_enter Try.func19, Try.ntmps19
      go_wp2_with (go_at_call 11; refine (HK.out).mono ?_; rintro e w' ⟨rfl, dW, rfl⟩)
      refine bodyPost_ret (results_tmp2 rfl _ _ _) rfl ⟨.slice none 0 0, by rw [hE]; rfl, by rw [hW]; exact World.ownsRow_nil _ _ _ _, (by repeat (first | exact Xt.Nw.refl _ | refine Xt.Nw.drew ?_ | refine Xt.Nw.drewN ?_ _ | refine Xt.Nw.alloc ?_ _ | refine Xt.Nw.joined ?_ | refine Xt.Nw.drewd ?_ | refine Xt.Nw.drewdN ?_ | refine Xt.Nw.ext ?_ | refine Xt.Nw.ext_some ?_ (by assumption) | refine Xt.Nw.setCell ?_ (by simp [go_sem] <;> omega) _))⟩
    · have hE : preE s l = 0 := by simp [preE, hb, hs]
      have hW : preW s l = pres s l := by simp [preW, hE]
      have HB := Lib.hid hb
      have HE := Lib.hid hE
      have HW := Lib.hid hW
      clear hb hv hE hW
      go_enter Try.func19, Try.ntmps19
      go_wp2_with (go_at_call 11; refine (HK.out).mono ?_; rintro e w' ⟨rfl, dW, rfl⟩)
      go_loopw [8, 23] (fun a i wr => ∃ (k : Nat) (L : List Cl), k ≤ n ∧ L.length ≤ k ∧ i = .int .i64 k ∧ OwnC wr w.heap.size a L ∧ Hid (pres s l = L ++ pres s (l.drop k)) ∧ Nw w wr) (fun _ i _ => n - (intOf i).toNat)
      case atStart => exact ⟨0, [], by omega, by simp, rfl, World.ownsRow_nil _ _ _ _, rfl, (by repeat (first | exact Xt.Nw.refl _ | refine Xt.Nw.drew ?_ | refine Xt.Nw.drewN ?_ _ | refine Xt.Nw.alloc ?_ _ | refine Xt.Nw.joined ?_ | refine Xt.Nw.drewd ?_ | refine Xt.Nw.drewdN ?_ | refine Xt.Nw.ext ?_ | refine Xt.Nw.ext_some ?_ (by assumption) | refine Xt.Nw.setCell ?_ (by simp [go_sem] <;> omega) _))⟩
      case round =>
        obtain ⟨k, L, hk, hLk, rfl, hown, hP, d, rfl⟩ := hrel
        by_cases hlt : k < n
        · obtain ⟨b, o, x, rfl, hb, hx, hcx⟩ := HL.out.get hlt
          haveI : CallAt w b (o + k * 18) x := ⟨hcx, hb⟩
          have hS := Lib.hid (pres_cons s hx)
          have hkn : (k : Int) < (n : Int) := by omega
          clear hx hcx
          by_cases h0 : x.inv ≤ s
          · have hd : decide (s < x.inv) = false := by simpa using h0
            go_wp2_with (at_builtin; refine wpList_app1 rfl _ _ 22 rfl 47 (cv zc) 18 144 Try.underlying22 callInfo rfl (by decide) (w) _ (by repeat (first | exact Xt.Nw.refl _ | refine Xt.Nw.drew ?_ | refine Xt.Nw.drewN ?_ _ | refine Xt.Nw.alloc ?_ _ | refine Xt.Nw.joined ?_ | refine Xt.Nw.drewd ?_ | refine Xt.Nw.drewdN ?_ | refine Xt.Nw.ext ?_ | refine Xt.Nw.ext_some ?_ (by assumption) | refine Xt.Nw.setCell ?_ (by simp [go_sem] <;> omega) _)) _ _ _ rfl (by first | assumption | exact own_nw (by assumption) (by repeat (first | exact Xt.Nw.refl _ | refine Xt.Nw.drew ?_ | refine Xt.Nw.drewN ?_ _ | refine Xt.Nw.alloc ?_ _ | refine Xt.Nw.joined ?_ | refine Xt.Nw.drewd ?_ | refine Xt.Nw.drewdN ?_ | refine Xt.Nw.ext ?_ | refine Xt.Nw.ext_some ?_ (by assumption) | refine Xt.Nw.setCell ?_ (by simp [go_sem] <;> omega) _))) _ 1 1 _ _ rfl (by first | rfl | simp) rfl (by intro u hu; simp at hu; (repeat' rcases hu with rfl | hu) <;> first | rfl | (subst hu; rfl)) (by unfold maxLen; omega) (by omega) ?_; intro vA dA hownA)
            all_goals (
            refine ⟨⟨k + 1, L ++ [pfx s x], by omega, by simp; omega, by go_num, OwnC.cast hownA (by simp) (by
              rw [cells_app]; refine congrArg _ ?_
              simp only [cells, List.flatMap_cons, List.flatMap_nil, List.append_nil, pfx]
              (repeat' split) <;> first | rfl | (exfalso; omega)), ?_, ⟨_, rfl⟩⟩, by simp [intOf]; omega⟩
            show _ = _
            rw [hP.out, hS.out, if_pos h0]; simp)
          · have hd : decide (s < x.inv) = true := by simpa using h0
            have hown' : OwnC (w.ext none d) w.heap.size u8 (preW s l) := by
              rw [HW.out, hP.out, hS.out, if_neg h0, List.append_nil]; exact hown
            have hown2 := own_nw hown' (show Nw (w.ext none d) ((w.ext none d).alloc (.cells #[.int .i64 x.th, .int .i64 x.ix, .int .u8 x.kd, .int .u64 x.ka, .int .u64 x.kb, .int .u64 x.kc, .int .u64 x.kx, .int .u64 x.ky, .int .u64 x.kz, .int .i64 x.inv, .int .i64 x.took, .int .i64 x.ans, .int .i64 x.st, .int .i64 x.re, .bool x.rf, .int .u64 x.rk, .int .u64 x.rv, .int .i64 x.rc] 47)) from Nw.alloc (Nw.refl _) _)
            go_wp2
            refine bodyPost_ret (results_tmp2 rfl _ _ _) rfl ⟨u8, by rw [HE.out]; rfl, hown2, (by repeat (first | exact Xt.Nw.refl _ | refine Xt.Nw.drew ?_ | refine Xt.Nw.drewN ?_ _ | refine Xt.Nw.alloc ?_ _ | refine Xt.Nw.joined ?_ | refine Xt.Nw.drewd ?_ | refine Xt.Nw.drewdN ?_ | refine Xt.Nw.ext ?_ | refine Xt.Nw.ext_some ?_ (by assumption) | refine Xt.Nw.setCell ?_ (by simp [go_sem] <;> omega) _))⟩
        · have hkn : k = n := by omega
          have hown' : OwnC (w.ext none d) w.heap.size u8 (preW s l) := by
            rw [HW.out, hP.out, hkn, List.drop_eq_nil_of_le (by omega)]
            simpa [pres] using hown
          go_wp2
          refine bodyPost_ret (results_tmp2 rfl _ _ _) rfl ⟨u8, by rw [HE.out]; rfl, hown', (by repeat (first | exact Xt.Nw.refl _ | refine Xt.Nw.drew ?_ | refine Xt.Nw.drewN ?_ _ | refine Xt.Nw.alloc ?_ _ | refine Xt.Nw.joined ?_ | refine Xt.Nw.drewd ?_ | refine Xt.Nw.drewdN ?_ | refine Xt.Nw.ext ?_ | refine Xt.Nw.ext_some ?_ (by assumption) | refine Xt.Nw.setCell ?_ (by simp [go_sem] <;> omega) _))⟩
  · rw [hv] at HK
    have hE : preE s l = 15 := by simp [preE, hb]
    have hW : preW s l = [] := by simp [preW, hE]
    have HB := Lib.hid hb
    clear hb hv
    go_enter Try.func19, Try.ntmps19
    go_wp2_with (go_at_call 11; refine (HK.out).mono ?_; rintro e w' ⟨rfl, dW, rfl⟩)
    refine bodyPost_ret (results_tmp2 rfl _ _ _) rfl ⟨.slice none 0 0, by rw [hE]; rfl, by rw [hW]; exact World.ownsRow_nil _ _ _ _, (by repeat (first | exact Xt.Nw.refl _ | refine Xt.Nw.drew ?_ | refine Xt.Nw.drewN ?_ _ | refine Xt.Nw.alloc ?_ _ | refine Xt.Nw.joined ?_ | refine Xt.Nw.drewd ?_ | refine Xt.Nw.drewdN ?_ | refine Xt.Nw.ext ?_ | refine Xt.Nw.ext_some ?_ (by assumption) | refine Xt.Nw.setCell ?_ (by simp [go_sem] <;> omega) _))⟩
end Go.Proofs.Ytjpgechcfkhoaaa
