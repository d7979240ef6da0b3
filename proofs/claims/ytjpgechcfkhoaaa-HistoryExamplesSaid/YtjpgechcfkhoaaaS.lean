import Derived.Test.YtjpgechcfkhoaaaQ
namespace Go.Proofs.Ytjpgechcfkhoaaa
open Go.RowKit Go.Xt
/-- The indices, among the first k, of the calls that are not answered. -/
def pendK (l : List Cl) : Nat → List Int
  | 0 => []
  | k + 1 => match l[k]? with
    | some x => if x.ans < 0 then pendK l k ++ [(k : Int)] else pendK l k
    | none => pendK l k
theorem pendK_succ {l : List Cl} {k : Nat} {x : Cl} (h : l[k]? = some x) : pendK l (k + 1) = pendK l k ++ if x.ans < 0 then [(k : Int)] else [] := by
  rw [pendK, h]; simp only; split <;> simp
theorem pendK_len (l : List Cl) : ∀ k, (pendK l k).length ≤ k
  | 0 => by simp [pendK]
  | k + 1 => by
    have := pendK_len l k
    rw [pendK]; split
    · split <;> simp <;> omega
    · omega
set_option maxRecDepth 20000 in
set_option maxHeartbeats 4000000 in
theorem pending_any (A : Option Addr) (n c : Nat) (l : List Cl) (w : World) (hn : n ≤ 1000) (hl : Cs w A n l) :
    Calls Try.prog 15 #[.slice A n c] w fun e w' => ∃ v, e = .returned v ∧ OwnI w' w.heap.size v (pendK l n) ∧ Nw w w' := by
  have HL := Lib.hid hl
  have hlen := hl.1
  clear hl
  go_enter Try.func15, Try.ntmps15
  go_wp2
  go_loopw [3, 4, 5, 8] (fun a _ _ i wr => ∃ k : Nat, k ≤ n ∧ i = .int .i64 k ∧ OwnI wr w.heap.size a (pendK l k) ∧ Nw w wr) (fun _ _ _ i _ => n - (intOf i).toNat)
  case atStart => exact ⟨0, by omega, rfl, World.ownsRow_nil _ _ _ _, Nw.refl _⟩
  case round =>
    obtain ⟨k, hk, rfl, hown, d, rfl⟩ := hrel
    by_cases hlt : k < n
    · obtain ⟨b, o, x, rfl, hb, hx, hcx⟩ := HL.out.get hlt
      haveI : CallAt w b (o + k * 18) x := ⟨hcx, hb⟩
      have hP := Lib.hid (pendK_succ hx)
      have hle := pendK_len l k
      have hkn : (k : Int) < (n : Int) := by omega
      clear hx hcx
      by_cases h0 : x.ans < 0
      · have hd : decide (x.ans < 0) = true := by simpa using h0
        go_wp2_with (at_builtin; refine wpList_app1 rfl _ _ 30 rfl 3 (.int .i64 0) 1 8 Try.underlying30 intInfo rfl (by decide) (w) _ (by repeat (first | exact Xt.Nw.refl _ | refine Xt.Nw.drew ?_ | refine Xt.Nw.drewN ?_ _ | refine Xt.Nw.alloc ?_ _ | refine Xt.Nw.joined ?_ | refine Xt.Nw.drewd ?_ | refine Xt.Nw.drewdN ?_ | refine Xt.Nw.ext ?_ | refine Xt.Nw.ext_some ?_ (by assumption) | refine Xt.Nw.setCell ?_ (by simp [go_sem] <;> omega) _)) _ _ _ rfl (by first | assumption | exact own_nw (by assumption) (by repeat (first | exact Xt.Nw.refl _ | refine Xt.Nw.drew ?_ | refine Xt.Nw.drewN ?_ _ | refine Xt.Nw.alloc ?_ _ | refine Xt.Nw.joined ?_ | refine Xt.Nw.drewd ?_ | refine Xt.Nw.drewdN ?_ | refine Xt.Nw.ext ?_ | refine Xt.Nw.ext_some ?_ (by assumption) | refine Xt.Nw.setCell ?_ (by simp [go_sem] <;> omega) _))) _ 1 1 _ _ rfl (by first | rfl | simp) rfl (by intro u hu; simp at hu; (repeat' rcases hu with rfl | hu) <;> first | rfl | (subst hu; rfl)) (by unfold maxLen; omega) (by omega) ?_; intro vA dA hownA)
        refine ⟨⟨k + 1, by omega, by go_num, OwnI.cast hownA (by rw [hP.out]; simp [h0]) (by rw [hP.out]; simp [h0, ints_app]), ⟨_, rfl⟩⟩, by simp [intOf]; omega⟩
      · have hd : decide (x.ans < 0) = false := by simpa using h0
        go_wp2
        refine ⟨⟨k + 1, by omega, by go_num, OwnI.cast (own_nw hown ((by repeat (first | exact Xt.Nw.refl _ | refine Xt.Nw.drew ?_ | refine Xt.Nw.drewN ?_ _ | refine Xt.Nw.alloc ?_ _ | refine Xt.Nw.joined ?_ | refine Xt.Nw.drewd ?_ | refine Xt.Nw.drewdN ?_ | refine Xt.Nw.ext ?_ | refine Xt.Nw.ext_some ?_ (by assumption) | refine Xt.Nw.setCell ?_ (by simp [go_sem] <;> omega) _)))) (by rw [hP.out]; simp [h0]) (by rw [hP.out]; simp [h0]), (by repeat (first | exact Xt.Nw.refl _ | refine Xt.Nw.drew ?_ | refine Xt.Nw.drewN ?_ _ | refine Xt.Nw.alloc ?_ _ | refine Xt.Nw.joined ?_ | refine Xt.Nw.drewd ?_ | refine Xt.Nw.drewdN ?_ | refine Xt.Nw.ext ?_ | refine Xt.Nw.ext_some ?_ (by assumption) | refine Xt.Nw.setCell ?_ (by simp [go_sem] <;> omega) _))⟩, by simp [intOf]; omega⟩
    · have hkn : k = n := by omega
      subst hkn
      go_wp2
      have hown' : OwnI (w.ext none d) w.heap.size u3 (pendK l k) := hown
      refine bodyPost_ret (results_tmp rfl _ _ _) rfl ⟨u3, rfl, hown', (by repeat (first | exact Xt.Nw.refl _ | refine Xt.Nw.drew ?_ | refine Xt.Nw.drewN ?_ _ | refine Xt.Nw.alloc ?_ _ | refine Xt.Nw.joined ?_ | refine Xt.Nw.drewd ?_ | refine Xt.Nw.drewdN ?_ | refine Xt.Nw.ext ?_ | refine Xt.Nw.ext_some ?_ (by assumption) | refine Xt.Nw.setCell ?_ (by simp [go_sem] <;> omega) _))⟩
set_option maxRecDepth 20000 in
set_option maxHeartbeats 4000000 in
theorem rpending_any (A : Option Addr) (n c : Nat) (l : List Cl) (w : World) (hn : n ≤ 1000) (hl : Cs w A n l) :
    Calls Try.prog 16 #[.slice A n c] w fun e w' => ∃ v, e = .returned v ∧ OwnI w' w.heap.size v (pendK l n) ∧ Nw w w' := by
  have HL := Lib.hid hl
  have hlen := hl.1
  clear hl
  go_enter Try.func16, Try.ntmps16
  go_wp2
  go_loopw [3, 4] (fun a i wr => ∃ k : Nat, k ≤ n ∧ i = .int .i64 k ∧ OwnI wr w.heap.size a (pendK l k) ∧ Nw w wr) (fun _ i _ => n - (intOf i).toNat)
  case atStart => exact ⟨0, by omega, rfl, World.ownsRow_nil _ _ _ _, Nw.refl _⟩
  case round =>
    obtain ⟨k, hk, rfl, hown, d, rfl⟩ := hrel
    by_cases hlt : k < n
    · obtain ⟨b, o, x, rfl, hb, hx, hcx⟩ := HL.out.get hlt
      haveI : In b w := ⟨hb⟩
      obtain ⟨_, _, _, _, _, _, _, _, _, _, _, h11, _⟩ := hcx
      have hP := Lib.hid (pendK_succ hx)
      have hle := pendK_len l k
      have hkn : (k : Int) < (n : Int) := by omega
      clear hx
      by_cases h0 : x.ans < 0
      · have hd : decide (x.ans < 0) = true := by simpa using h0
        go_wp2_with (at_builtin; refine wpList_app1 rfl _ _ 30 rfl 3 (.int .i64 0) 1 8 Try.underlying30 intInfo rfl (by decide) (w) _ (by repeat (first | exact Xt.Nw.refl _ | refine Xt.Nw.drew ?_ | refine Xt.Nw.drewN ?_ _ | refine Xt.Nw.alloc ?_ _ | refine Xt.Nw.joined ?_ | refine Xt.Nw.drewd ?_ | refine Xt.Nw.drewdN ?_ | refine Xt.Nw.ext ?_ | refine Xt.Nw.ext_some ?_ (by assumption) | refine Xt.Nw.setCell ?_ (by simp [go_sem] <;> omega) _)) _ _ _ rfl (by first | assumption | exact own_nw (by assumption) (by repeat (first | exact Xt.Nw.refl _ | refine Xt.Nw.drew ?_ | refine Xt.Nw.drewN ?_ _ | refine Xt.Nw.alloc ?_ _ | refine Xt.Nw.joined ?_ | refine Xt.Nw.drewd ?_ | refine Xt.Nw.drewdN ?_ | refine Xt.Nw.ext ?_ | refine Xt.Nw.ext_some ?_ (by assumption) | refine Xt.Nw.setCell ?_ (by simp [go_sem] <;> omega) _))) _ 1 1 _ _ rfl (by first | rfl | simp) rfl (by intro u hu; simp at hu; (repeat' rcases hu with rfl | hu) <;> first | rfl | (subst hu; rfl)) (by unfold maxLen; omega) (by omega) ?_; intro vA dA hownA)
        refine ⟨⟨k + 1, by omega, by go_num, OwnI.cast hownA (by rw [hP.out]; simp [h0]) (by rw [hP.out]; simp [h0, ints_app]), ⟨_, rfl⟩⟩, by simp [intOf]; omega⟩
      · have hd : decide (x.ans < 0) = false := by simpa using h0
        go_wp2
        refine ⟨⟨k + 1, by omega, by go_num, OwnI.cast (own_nw hown ((by repeat (first | exact Xt.Nw.refl _ | refine Xt.Nw.drew ?_ | refine Xt.Nw.drewN ?_ _ | refine Xt.Nw.alloc ?_ _ | refine Xt.Nw.joined ?_ | refine Xt.Nw.drewd ?_ | refine Xt.Nw.drewdN ?_ | refine Xt.Nw.ext ?_ | refine Xt.Nw.ext_some ?_ (by assumption) | refine Xt.Nw.setCell ?_ (by simp [go_sem] <;> omega) _)))) (by rw [hP.out]; simp [h0]) (by rw [hP.out]; simp [h0]), (by repeat (first | exact Xt.Nw.refl _ | refine Xt.Nw.drew ?_ | refine Xt.Nw.drewN ?_ _ | refine Xt.Nw.alloc ?_ _ | refine Xt.Nw.joined ?_ | refine Xt.Nw.drewd ?_ | refine Xt.Nw.drewdN ?_ | refine Xt.Nw.ext ?_ | refine Xt.Nw.ext_some ?_ (by assumption) | refine Xt.Nw.setCell ?_ (by simp [go_sem] <;> omega) _))⟩, by simp [intOf]; omega⟩
    · have hkn : k = n := by omega
      subst hkn
      go_wp2
      have hown' : OwnI (w.ext none d) w.heap.size u3 (pendK l k) := hown
      refine bodyPost_ret (results_tmp rfl _ _ _) rfl ⟨u3, rfl, hown', (by repeat (first | exact Xt.Nw.refl _ | refine Xt.Nw.drew ?_ | refine Xt.Nw.drewN ?_ _ | refine Xt.Nw.alloc ?_ _ | refine Xt.Nw.joined ?_ | refine Xt.Nw.drewd ?_ | refine Xt.Nw.drewdN ?_ | refine Xt.Nw.ext ?_ | refine Xt.Nw.ext_some ?_ (by assumption) | refine Xt.Nw.setCell ?_ (by simp [go_sem] <;> omega) _))⟩
set_option maxRecDepth 20000 in
set_option maxHeartbeats 4000000 in
theorem rof_any (t : Int) (A : Option Addr) (n c : Nat) (l : List Cl) (w : World) (hn : n ≤ 1000) (hl : Cs w A n l) :
    Calls Try.prog 14 #[.int .i64 t, .slice A n c] w fun e w' => ∃ v, e = .returned v ∧ OwnC w' w.heap.size v (ofT t l) ∧ Nw w w' := by
  have HL := Lib.hid hl
  have hlen := hl.1
  clear hl
  go_enter Try.func14, Try.ntmps14
  go_wp2
  go_loopw [5, 6] (fun a i wr => ∃ k : Nat, k ≤ n ∧ i = .int .i64 k ∧ OwnC wr w.heap.size a (ofT t (l.take k)) ∧ Nw w wr) (fun _ i _ => n - (intOf i).toNat)
  case atStart => exact ⟨0, by omega, rfl, World.ownsRow_nil _ _ _ _, Nw.refl _⟩
  case round =>
    obtain ⟨k, hk, rfl, hown, d, rfl⟩ := hrel
    by_cases hlt : k < n
    · obtain ⟨b, o, x, rfl, hb, hx, hcx⟩ := HL.out.get hlt
      haveI : In b w := ⟨hb⟩
      haveI : CallAt w b (o + k * 18) x := ⟨hcx, hb⟩
      have h1 := hcx.1
      have hP := Lib.hid (ofT_succ t hx)
      have hle : (ofT t (l.take k)).length ≤ k := flen _ _ _
      have hkn : (k : Int) < (n : Int) := by omega
      clear hx hcx
      by_cases h0 : x.th = t
      · have hd : (x.th == t) = true := by simpa using h0
        have H0 := Lib.hid h0
        clear h0
        go_wp2_with (at_builtin; refine wpList_app1 rfl _ _ 22 rfl 47 (cv zc) 18 144 Try.underlying22 callInfo rfl (by decide) (w) _ (by repeat (first | exact Xt.Nw.refl _ | refine Xt.Nw.drew ?_ | refine Xt.Nw.drewN ?_ _ | refine Xt.Nw.alloc ?_ _ | refine Xt.Nw.joined ?_ | refine Xt.Nw.drewd ?_ | refine Xt.Nw.drewdN ?_ | refine Xt.Nw.ext ?_ | refine Xt.Nw.ext_some ?_ (by assumption) | refine Xt.Nw.setCell ?_ (by simp [go_sem] <;> omega) _)) _ _ _ rfl (by first | assumption | exact own_nw (by assumption) (by repeat (first | exact Xt.Nw.refl _ | refine Xt.Nw.drew ?_ | refine Xt.Nw.drewN ?_ _ | refine Xt.Nw.alloc ?_ _ | refine Xt.Nw.joined ?_ | refine Xt.Nw.drewd ?_ | refine Xt.Nw.drewdN ?_ | refine Xt.Nw.ext ?_ | refine Xt.Nw.ext_some ?_ (by assumption) | refine Xt.Nw.setCell ?_ (by simp [go_sem] <;> omega) _))) _ 1 1 _ _ rfl (by first | rfl | simp) rfl (by intro u hu; simp at hu; (repeat' rcases hu with rfl | hu) <;> first | rfl | (subst hu; rfl)) (by unfold maxLen; omega) (by omega) ?_; intro vA dA hownA)
        refine ⟨⟨k + 1, by omega, by go_num, OwnC.cast hownA (by rw [hP.out, if_pos H0.out]; simp) (by rw [hP.out, if_pos H0.out, cells_app]; rfl), ⟨_, rfl⟩⟩, by simp [intOf]; omega⟩
      · have hd : (x.th == t) = false := by simpa using h0
        have H0 := Lib.hid h0
        clear h0
        go_wp2
        refine ⟨⟨k + 1, by omega, by go_num, OwnC.cast (own_nw hown ((by repeat (first | exact Xt.Nw.refl _ | refine Xt.Nw.drew ?_ | refine Xt.Nw.drewN ?_ _ | refine Xt.Nw.alloc ?_ _ | refine Xt.Nw.joined ?_ | refine Xt.Nw.drewd ?_ | refine Xt.Nw.drewdN ?_ | refine Xt.Nw.ext ?_ | refine Xt.Nw.ext_some ?_ (by assumption) | refine Xt.Nw.setCell ?_ (by simp [go_sem] <;> omega) _)))) (by rw [hP.out, if_neg H0.out]; simp) (by rw [hP.out, if_neg H0.out]; simp), (by repeat (first | exact Xt.Nw.refl _ | refine Xt.Nw.drew ?_ | refine Xt.Nw.drewN ?_ _ | refine Xt.Nw.alloc ?_ _ | refine Xt.Nw.joined ?_ | refine Xt.Nw.drewd ?_ | refine Xt.Nw.drewdN ?_ | refine Xt.Nw.ext ?_ | refine Xt.Nw.ext_some ?_ (by assumption) | refine Xt.Nw.setCell ?_ (by simp [go_sem] <;> omega) _))⟩, by simp [intOf]; omega⟩
    · have hkn : k = n := by omega
      go_wp2
      rw [List.take_of_length_le (by omega)] at hown
      have hown' : OwnC (w.ext none d) w.heap.size u5 (ofT t l) := hown
      refine bodyPost_ret (results_tmp rfl _ _ _) rfl ⟨u5, rfl, hown', (by repeat (first | exact Xt.Nw.refl _ | refine Xt.Nw.drew ?_ | refine Xt.Nw.drewN ?_ _ | refine Xt.Nw.alloc ?_ _ | refine Xt.Nw.joined ?_ | refine Xt.Nw.drewd ?_ | refine Xt.Nw.drewdN ?_ | refine Xt.Nw.ext ?_ | refine Xt.Nw.ext_some ?_ (by assumption) | refine Xt.Nw.setCell ?_ (by simp [go_sem] <;> omega) _))⟩
set_option maxHeartbeats 2000000 in
theorem copyCalls_any (A : Option Addr) (n c : Nat) (l : List Cl) (w : World) (hn : n ≤ 1000) (hl : Cs w A n l) :
    Calls Try.prog 31 #[.slice A n c] w fun e w' => ∃ v, e = .returned v ∧ OwnC w' w.heap.size v l ∧ Nw w w' := by
  have HL := Lib.hid hl
  have hlen := hl.1
  clear hl
  go_enter Try.func31, Try.ntmps31
  go_wp2_with (at_builtin; refine wpList_appS rfl _ _ 22 rfl 47 (cv zc) 18 144 Try.underlying22 callInfo rfl (by decide) w _ (Nw.refl w) _ 0 [] rfl (World.ownsRow_nil _ _ _ _) _ n c (cells l) rfl HL.out.rd (cells_one l) (by unfold maxLen; omega) (by omega) ?_; intro vA dA hownA hnil)
  have h' : OwnC (w.ext none dA) w.heap.size vA l := OwnC.cast hownA (by omega) (by simp)
  refine bodyPost_ret (results_tmp rfl _ _ _) rfl ⟨vA, rfl, h', (by repeat (first | exact Xt.Nw.refl _ | refine Xt.Nw.drew ?_ | refine Xt.Nw.drewN ?_ _ | refine Xt.Nw.alloc ?_ _ | refine Xt.Nw.joined ?_ | refine Xt.Nw.drewd ?_ | refine Xt.Nw.drewdN ?_ | refine Xt.Nw.ext ?_ | refine Xt.Nw.ext_some ?_ (by assumption) | refine Xt.Nw.setCell ?_ (by simp [go_sem] <;> omega) _))⟩
end Go.Proofs.Ytjpgechcfkhoaaa
