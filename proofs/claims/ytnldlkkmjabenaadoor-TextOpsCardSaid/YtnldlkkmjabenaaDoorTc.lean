import Derived.Test.YtnldlkkmjabenaaDoorTb
namespace Go.Proofs.YtnldlkkmjabenaaDoor
open Go.RowKit Go.Xt
set_option maxRecDepth 20000 in
set_option maxHeartbeats 4000000 in
theorem rnumbers_any (A : Option Addr) (n c : Nat) (ws : List ByteArray) (w : World) (hn : n ≤ 1000) (hr : Rd w 1 A n (strs ws)) :
    Calls Tryd.prog 19 #[.slice A n c, .int .u64 18446744073709551615] w fun e w' => NumsE w.heap.size (allB ws) e w' ∧ Nw w w' := by
  have HR := Lib.hid hr
  have hlen : ws.length = n := by have := hr.1; simpa [strs] using this
  have HLN := Lib.hid hlen
  clear hr hlen
  go_enter Tryd.func19, Tryd.ntmps19
  go_wp2_with fail
  go_loopw [6, 7] (fun a b wr => ∃ (i : Nat) (ns : List Nat), i ≤ n ∧ ns.length = i ∧ b = .int .i64 i ∧ Hid (allB (ws.take i) = some ns) ∧ wr.ownsRow w.heap.size 22 1 a i (nums ns) ∧ Nw w wr) (fun _ b _ => n - (intOf b).toNat)
  case atStart => exact ⟨0, [], by omega, rfl, rfl, rfl, World.ownsRow_nil _ _ _ _, (by repeat (first | exact Xt.Nw.refl _ | refine Xt.Nw.drew ?_ | refine Xt.Nw.drewN ?_ _ | refine Xt.Nw.alloc ?_ _ | refine Xt.Nw.joined ?_ | refine Xt.Nw.drewd ?_ | refine Xt.Nw.drewdN ?_ | refine Xt.Nw.ext ?_ | refine Xt.Nw.ext_some ?_ (by assumption) | refine Xt.Nw.setCell ?_ (by simp [go_sem] <;> omega) _))⟩
  case round =>
    obtain ⟨i, ns, hi, hnl, rfl, hal, hown, d, rfl⟩ := hrel
    by_cases hlt : i < n
    · obtain ⟨b, o, s, rfl, hb, hx, hc⟩ := str_get HR.out hlt
      haveI : In b w := ⟨hb⟩
      have hsn : allB (ws.take (i + 1)) = match numB s.data.toList with | some u => some (ns ++ [u]) | none => none := by
        obtain ⟨p1, q1⟩ := List.getElem?_eq_some_iff.1 hx
        rw [List.take_succ_eq_append_getElem p1, q1, allB_snoc, hal.out]
        cases numB s.data.toList <;> rfl
      have hin : (i : Int) < (n : Int) := by omega
      have hnum := Lib.hid (fun W => rnumber_any s W)
      have HX := Lib.hid hx
      clear hx hal
      cases hnb : numB s.data.toList with
      | none =>
        rw [hnb] at hsn hnum
        rw [show numV none = .tuple #[.int .u64 0, .bool false] from rfl] at hnum
        have hfin := Lib.hid (show allB ws = none by
          rw [← List.take_append_drop (i + 1) ws]; exact allB_none _ _ hsn)
        clear hsn hnb
        go_wp2_with fail
        refine (hnum.out _).mono ?_
        rintro e w' ⟨rfl, dX, rfl⟩
        go_wp2
        refine bodyPost_ret (results_tmp2 rfl _ _ _) rfl ⟨⟨.slice none 0 0, false, rfl, ?_⟩, (by repeat (first | exact Xt.Nw.refl _ | refine Xt.Nw.drew ?_ | refine Xt.Nw.drewN ?_ _ | refine Xt.Nw.alloc ?_ _ | refine Xt.Nw.joined ?_ | refine Xt.Nw.drewd ?_ | refine Xt.Nw.drewdN ?_ | refine Xt.Nw.ext ?_ | refine Xt.Nw.ext_some ?_ (by assumption) | refine Xt.Nw.setCell ?_ (by simp [go_sem] <;> omega) _))⟩
        rw [hfin.out]; rfl
      | some u =>
        rw [hnb] at hsn hnum
        rw [show numV (some u) = .tuple #[.int .u64 (u : Int), .bool true] from rfl] at hnum
        have hu := (numB_some hnb).1
        have HSN := Lib.hid hsn
        clear hsn hnb
        go_wp2_with fail
        refine (hnum.out _).mono ?_
        rintro e w' ⟨rfl, dX, rfl⟩
        go_upto_region 8 with (fail)
        have hown2 := own_nw hown (show Nw (w.ext none d) ((w.ext none d).ext none dX) from ⟨_, rfl⟩)
        go_wp2_with (at_builtin; refine wpList_app1 rfl _ _ 41 rfl 22 (.int .u64 0) 1 8 Tryd.underlying41 u64Info rfl (by decide) w ((w.ext none d).ext none dX) ((by repeat (first | exact Xt.Nw.refl _ | refine Xt.Nw.drew ?_ | refine Xt.Nw.drewN ?_ _ | refine Xt.Nw.alloc ?_ _ | refine Xt.Nw.joined ?_ | refine Xt.Nw.drewd ?_ | refine Xt.Nw.drewdN ?_ | refine Xt.Nw.ext ?_ | refine Xt.Nw.ext_some ?_ (by assumption) | refine Xt.Nw.setCell ?_ (by simp [go_sem] <;> omega) _))) _ _ _ rfl (by exact hown2) _ 1 1 _ _ rfl rfl rfl (by intro z hz; simp at hz; subst hz; rfl) (by unfold maxLen; omega) (by omega) ?_; intro vA dA hownA)
        refine ⟨⟨i + 1, ns ++ [u], by omega, by simp; omega, by go_num, HSN.out, ?_, ⟨_, rfl⟩⟩, by first | (simp [intOf]; omega) | omega⟩
        simpa [nums] using hownA
    · have hin : ¬ (i : Int) < (n : Int) := by omega
      have hfin : allB ws = some ns := by
        have h := hal.out
        rw [List.take_of_length_le (by have := HLN.out; omega)] at h; exact h
      have HFN := Lib.hid hfin
      clear hfin hal
      go_wp2
      refine bodyPost_ret (results_tmp2 rfl _ _ _) rfl ⟨⟨_, true, rfl, ?_⟩, (by repeat (first | exact Xt.Nw.refl _ | refine Xt.Nw.drew ?_ | refine Xt.Nw.drewN ?_ _ | refine Xt.Nw.alloc ?_ _ | refine Xt.Nw.joined ?_ | refine Xt.Nw.drewd ?_ | refine Xt.Nw.drewdN ?_ | refine Xt.Nw.ext ?_ | refine Xt.Nw.ext_some ?_ (by assumption) | refine Xt.Nw.setCell ?_ (by simp [go_sem] <;> omega) _))⟩
      rw [HFN.out]
      exact ⟨rfl, by rw [hnl]; exact hown⟩
end Go.Proofs.YtnldlkkmjabenaaDoor
