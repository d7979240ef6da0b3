import Derived.Test.YtjpgechcfkhoaaaW
namespace Go.Proofs.Ytjpgechcfkhoaaa
open Go.RowKit Go.Xt
def prer (s : Int) (l : List Cl) : List Cl := (l.filter fun x => decide (x.inv ≤ s)).map (pfx s)
def preR (s : Int) (l : List Cl) : List Cl := if preE s l = 0 then prer s l else []
theorem prer_cons (s : Int) {l : List Cl} {k : Nat} {x : Cl} (hx : l[k]? = some x) : prer s (l.drop k) = if x.inv ≤ s then pfx s x :: prer s (l.drop (k + 1)) else prer s (l.drop (k + 1)) := by
  obtain ⟨p1, q1⟩ := List.getElem?_eq_some_iff.1 hx
  rw [List.drop_eq_getElem_cons p1, q1, prer, List.filter_cons]
  by_cases h : x.inv ≤ s <;> simp [h, prer]
set_option maxRecDepth 20000 in
set_option maxHeartbeats 4000000 in
theorem rprefix_any (s : Int) (A : Option Addr) (n c : Nat) (l : List Cl) (w : World) (hn : n ≤ 1000) (hl : Cs w A n l) (hw : ∀ y ∈ l, WfC y) :
    Calls Try.prog 20 #[.int .i64 s, .slice A n c] w fun e w' => ∃ v, e = .returned (.tuple #[v, .int .i64 (preE s l)]) ∧ OwnC w' w.heap.size v (preR s l) ∧ Nw w w' := by
  have HK := Lib.hid (rcheck_any A n c l w hn hl hw)
  have HL := Lib.hid hl
  have hlen := hl.1
  clear hl hw
  rcases chk_cases l with ⟨hb, hv⟩ | ⟨i, hb, hv⟩
  · rw [hv] at HK
    by_cases hs : s < -1
    · have hE : preE s l = 3 := by simp [preE, hb, hs]
      have hW : preR s l = [] := by simp [preR, hE]
      have HB := Lib.hid hb
      clear hb hv
      go_enter Try.func20, Try.ntmps20
      go_wp2_with (go_at_call 12; refine (HK.out).mono ?_; rintro e w' ⟨rfl, dW, rfl⟩)
      refine bodyPost_ret (results_tmp2 rfl _ _ _) rfl ⟨.slice none 0 0, by rw [hE]; rfl, by rw [hW]; exact World.ownsRow_nil _ _ _ _, (by repeat (first | exact Xt.Nw.refl _ | refine Xt.Nw.drew ?_ | refine Xt.Nw.drewN ?_ _ | refine Xt.Nw.alloc ?_ _ | refine Xt.Nw.joined ?_ | refine Xt.Nw.drewd ?_ | refine Xt.Nw.drewdN ?_ | refine Xt.Nw.ext ?_ | refine Xt.Nw.ext_some ?_ (by assumption) | refine Xt.Nw.setCell ?_ (by simp [go_sem] <;> omega) _))⟩
    · have hE : preE s l = 0 := by simp [preE, hb, hs]
      have hW : preR s l = prer s l := by simp [preR, hE]
      have HB := Lib.hid hb
      have HE := Lib.hid hE
      have HW := Lib.hid hW
      clear hb hv hE hW
      go_enter Try.func20, Try.ntmps20
      go_wp2_with (go_at_call 12; refine (HK.out).mono ?_; rintro e w' ⟨rfl, dW, rfl⟩)
      go_loopw [8, 9] (fun a i wr => ∃ (k : Nat) (L : List Cl), k ≤ n ∧ L.length ≤ k ∧ i = .int .i64 k ∧ OwnC wr w.heap.size a L ∧ Hid (prer s l = L ++ prer s (l.drop k)) ∧ Nw w wr) (fun _ i _ => n - (intOf i).toNat)
      case atStart => exact ⟨0, [], by omega, by simp, rfl, World.ownsRow_nil _ _ _ _, rfl, (by repeat (first | exact Xt.Nw.refl _ | refine Xt.Nw.drew ?_ | refine Xt.Nw.drewN ?_ _ | refine Xt.Nw.alloc ?_ _ | refine Xt.Nw.joined ?_ | refine Xt.Nw.drewd ?_ | refine Xt.Nw.drewdN ?_ | refine Xt.Nw.ext ?_ | refine Xt.Nw.ext_some ?_ (by assumption) | refine Xt.Nw.setCell ?_ (by simp [go_sem] <;> omega) _))⟩
      case round =>
        obtain ⟨k, L, hk, hLk, rfl, hown, hP, d, rfl⟩ := hrel
        by_cases hlt : k < n
        · obtain ⟨b, o, x, rfl, hb, hx, hcx⟩ := HL.out.get hlt
          haveI : CallAt w b (o + k * 18) x := ⟨hcx, hb⟩
          haveI : In b w := ⟨hb⟩
          obtain ⟨_, _, _, _, _, _, _, _, _, h9, _⟩ := id hcx
          have hS := Lib.hid (prer_cons s hx)
          have hkn : (k : Int) < (n : Int) := by omega
          clear hx hcx
          by_cases h0 : x.inv ≤ s
          · have hd : decide (s < x.inv) = false := by simpa using h0
            go_wp2_with (at_builtin; refine wpList_app1 rfl _ _ 22 rfl 47 (cv zc) 18 144 Try.underlying22 callInfo rfl (by decide) (w) _ (by repeat (first | exact Xt.Nw.refl _ | refine Xt.Nw.drew ?_ | refine Xt.Nw.drewN ?_ _ | refine Xt.Nw.alloc ?_ _ | refine Xt.Nw.joined ?_ | refine Xt.Nw.drewd ?_ | refine Xt.Nw.drewdN ?_ | refine Xt.Nw.ext ?_ | refine Xt.Nw.ext_some ?_ (by assumption) | refine Xt.Nw.setCell ?_ (by simp [go_sem] <;> omega) _)) _ _ _ rfl (by first | assumption | exact own_nw (by assumption) (by repeat (first | exact Xt.Nw.refl _ | refine Xt.Nw.drew ?_ | refine Xt.Nw.drewN ?_ _ | refine Xt.Nw.alloc ?_ _ | refine Xt.Nw.joined ?_ | refine Xt.Nw.drewd ?_ | refine Xt.Nw.drewdN ?_ | refine Xt.Nw.ext ?_ | refine Xt.Nw.ext_some ?_ (by assumption) | refine Xt.Nw.setCell ?_ (by simp [go_sem] <;> omega) _))) _ 1 1 _ _ rfl (by first | rfl | simp) rfl (by intro u hu; simp at hu; (repeat' rcases hu with rfl | hu) <;> first | rfl | (subst hu; rfl)) (by unfold maxLen; omega) (by omega) ?_; intro vA dA hownA)
            all_goals (
            refine ⟨⟨k + 1, L ++ [pfx s x], by omega, by simp; omega, by go_num, OwnC.cast hownA (by simp) (by
              rw [cells_app]; refine congrArg _ ?_
              simp only [cells, List.flatMap_cons, List.flatMap_nil, List.append_nil, pfx]
              (repeat' split) <;> first | rfl | (exfalso; omega)), ?_, ⟨_, rfl⟩⟩, by simp [intOf]; omega⟩
            show _ = _
            rw [hP.out, hS.out, if_pos h0]; simp)
          · have hd : decide (s < x.inv) = true := by simpa using h0
            go_wp2
            refine ⟨⟨k + 1, L, by omega, by omega, by go_num, hown, ?_, (by repeat (first | exact Xt.Nw.refl _ | refine Xt.Nw.drew ?_ | refine Xt.Nw.drewN ?_ _ | refine Xt.Nw.alloc ?_ _ | refine Xt.Nw.joined ?_ | refine Xt.Nw.drewd ?_ | refine Xt.Nw.drewdN ?_ | refine Xt.Nw.ext ?_ | refine Xt.Nw.ext_some ?_ (by assumption) | refine Xt.Nw.setCell ?_ (by simp [go_sem] <;> omega) _))⟩, by simp [intOf]; omega⟩
            show _ = _
            rw [hP.out, hS.out, if_neg h0]
        · have hkn : k = n := by omega
          have hown' : OwnC (w.ext none d) w.heap.size u8 (preR s l) := by
            rw [HW.out, hP.out, hkn, List.drop_eq_nil_of_le (by omega)]
            simpa [prer] using hown
          go_wp2
          refine bodyPost_ret (results_tmp2 rfl _ _ _) rfl ⟨u8, by rw [HE.out]; rfl, hown', (by repeat (first | exact Xt.Nw.refl _ | refine Xt.Nw.drew ?_ | refine Xt.Nw.drewN ?_ _ | refine Xt.Nw.alloc ?_ _ | refine Xt.Nw.joined ?_ | refine Xt.Nw.drewd ?_ | refine Xt.Nw.drewdN ?_ | refine Xt.Nw.ext ?_ | refine Xt.Nw.ext_some ?_ (by assumption) | refine Xt.Nw.setCell ?_ (by simp [go_sem] <;> omega) _))⟩
  · rw [hv] at HK
    have hE : preE s l = 15 := by simp [preE, hb]
    have hW : preR s l = [] := by simp [preR, hE]
    have HB := Lib.hid hb
    clear hb hv
    go_enter Try.func20, Try.ntmps20
    go_wp2_with (go_at_call 12; refine (HK.out).mono ?_; rintro e w' ⟨rfl, dW, rfl⟩)
    refine bodyPost_ret (results_tmp2 rfl _ _ _) rfl ⟨.slice none 0 0, by rw [hE]; rfl, by rw [hW]; exact World.ownsRow_nil _ _ _ _, (by repeat (first | exact Xt.Nw.refl _ | refine Xt.Nw.drew ?_ | refine Xt.Nw.drewN ?_ _ | refine Xt.Nw.alloc ?_ _ | refine Xt.Nw.joined ?_ | refine Xt.Nw.drewd ?_ | refine Xt.Nw.drewdN ?_ | refine Xt.Nw.ext ?_ | refine Xt.Nw.ext_some ?_ (by assumption) | refine Xt.Nw.setCell ?_ (by simp [go_sem] <;> omega) _))⟩
end Go.Proofs.Ytjpgechcfkhoaaa
