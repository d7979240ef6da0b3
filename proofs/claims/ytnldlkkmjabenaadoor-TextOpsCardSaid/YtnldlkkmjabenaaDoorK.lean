import Derived.Test.YtnldlkkmjabenaaDoorJ
namespace Go.Proofs.YtnldlkkmjabenaaDoor
open Go.RowKit Go.Xt
def numV : Option Nat → Value
  | some u => .tuple #[.int .u64 (u : Int), .bool true]
  | none => .tuple #[.int .u64 0, .bool false]
theorem str_iff (l : List UInt8) (s : ByteArray) : (⟨l.toArray⟩ : ByteArray) = s ↔ l = s.data.toList := by
  constructor
  · rintro rfl; simp
  · rintro rfl; cases s; simp
theorem str_beq (t s : ByteArray) : (t.toList == s.toList) = decide (t = s) := by
  rw [ByteArray.toList_eq, ByteArray.toList_eq]
  by_cases h : t = s
  · subst h; simp
  · have : ¬ t.data = s.data := fun e => h (by cases t; cases s; simp at e; rw [e])
    simp [h, this]
set_option maxRecDepth 20000 in
set_option maxHeartbeats 4000000 in
theorem number_any (s : ByteArray) (w : World) (H : FmtAt w) (HP : PuAt w) (hs : s.size ≤ 1000) :
    Calls Tryd.prog 28 #[.string s] w fun e w' => e = .returned (numV (numB s.data.toList)) ∧ Nw w w' := by
  have HF := Lib.hid H
  have HPU := Lib.hid HP
  clear H HP
  go_enter Tryd.func28, Tryd.ntmps28
  go_wp2_with fail
  refine (HPU.out _ s ((by repeat (first | exact Xt.Nw.refl _ | refine Xt.Nw.drew ?_ | refine Xt.Nw.drewN ?_ _ | refine Xt.Nw.alloc ?_ _ | refine Xt.Nw.joined ?_ | refine Xt.Nw.drewd ?_ | refine Xt.Nw.drewdN ?_ | refine Xt.Nw.ext ?_ | refine Xt.Nw.ext_some ?_ (by assumption) | refine Xt.Nw.setCell ?_ (by simp [go_sem] <;> omega) _))) (by omega)).mono ?_
  rintro e w' ⟨⟨z, v, rfl, hc⟩, dW, rfl⟩
  rcases hc with ⟨hz, rfl⟩ | ⟨hz, t, p, rfl⟩
  · have hz64 : z < 18446744073709551616 := by have := Lib.parseUintB_le hz; omega
    obtain ⟨t, ht⟩ : ∃ t : ByteArray, t = ⟨(Lib.decDigits z).toArray⟩ := ⟨_, rfl⟩
    have hfm := Lib.hid (fun W (h : FmtAt W) => fmt_any W h z hz64)
    rw [← ht] at hfm
    by_cases he : t = s
    · have hN := Lib.hid (show numB s.data.toList = some z by
        rw [numB, hz]
        simp only
        rw [if_pos ((str_iff _ _).1 (ht ▸ he))])
      have d1 : (t.toList == s.toList) = true := by rw [str_beq]; simpa using he
      have HE := Lib.hid he
      clear he hz ht
      go_wp2_with fail
      refine (hfm.out _ (HF.out.nw ((by repeat (first | exact Xt.Nw.refl _ | refine Xt.Nw.drew ?_ | refine Xt.Nw.drewN ?_ _ | refine Xt.Nw.alloc ?_ _ | refine Xt.Nw.joined ?_ | refine Xt.Nw.drewd ?_ | refine Xt.Nw.drewdN ?_ | refine Xt.Nw.ext ?_ | refine Xt.Nw.ext_some ?_ (by assumption) | refine Xt.Nw.setCell ?_ (by simp [go_sem] <;> omega) _))))).mono ?_
      rintro e w' ⟨rfl, dX, rfl⟩
      go_wp2
      refine bodyPost_ret (results_tmp2 rfl _ _ _) rfl ⟨by rw [hN.out]; rfl, (by repeat (first | exact Xt.Nw.refl _ | refine Xt.Nw.drew ?_ | refine Xt.Nw.drewN ?_ _ | refine Xt.Nw.alloc ?_ _ | refine Xt.Nw.joined ?_ | refine Xt.Nw.drewd ?_ | refine Xt.Nw.drewdN ?_ | refine Xt.Nw.ext ?_ | refine Xt.Nw.ext_some ?_ (by assumption) | refine Xt.Nw.setCell ?_ (by simp [go_sem] <;> omega) _))⟩
    · have hN := Lib.hid (show numB s.data.toList = none by
        rw [numB, hz]
        simp only
        rw [if_neg (fun h => he (ht ▸ (str_iff _ _).2 h))])
      have d1 : (t.toList == s.toList) = false := by rw [str_beq]; simpa using he
      clear he hz ht
      go_wp2_with fail
      refine (hfm.out _ (HF.out.nw ((by repeat (first | exact Xt.Nw.refl _ | refine Xt.Nw.drew ?_ | refine Xt.Nw.drewN ?_ _ | refine Xt.Nw.alloc ?_ _ | refine Xt.Nw.joined ?_ | refine Xt.Nw.drewd ?_ | refine Xt.Nw.drewdN ?_ | refine Xt.Nw.ext ?_ | refine Xt.Nw.ext_some ?_ (by assumption) | refine Xt.Nw.setCell ?_ (by simp [go_sem] <;> omega) _))))).mono ?_
      rintro e w' ⟨rfl, dX, rfl⟩
      go_wp2
      refine bodyPost_ret (results_tmp2 rfl _ _ _) rfl ⟨by rw [hN.out]; rfl, (by repeat (first | exact Xt.Nw.refl _ | refine Xt.Nw.drew ?_ | refine Xt.Nw.drewN ?_ _ | refine Xt.Nw.alloc ?_ _ | refine Xt.Nw.joined ?_ | refine Xt.Nw.drewd ?_ | refine Xt.Nw.drewdN ?_ | refine Xt.Nw.ext ?_ | refine Xt.Nw.ext_some ?_ (by assumption) | refine Xt.Nw.setCell ?_ (by simp [go_sem] <;> omega) _))⟩
  · have hN := Lib.hid (show numB s.data.toList = none by
      unfold numB
      split
      · rename_i u hu; exact absurd hu (hz u)
      · rfl)
    clear hz
    go_wp2
    refine bodyPost_ret (results_tmp2 rfl _ _ _) rfl ⟨by rw [hN.out]; rfl, (by repeat (first | exact Xt.Nw.refl _ | refine Xt.Nw.drew ?_ | refine Xt.Nw.drewN ?_ _ | refine Xt.Nw.alloc ?_ _ | refine Xt.Nw.joined ?_ | refine Xt.Nw.drewd ?_ | refine Xt.Nw.drewdN ?_ | refine Xt.Nw.ext ?_ | refine Xt.Nw.ext_some ?_ (by assumption) | refine Xt.Nw.setCell ?_ (by simp [go_sem] <;> omega) _))⟩
/-- The numbers that words say. -/
def allB : List ByteArray → Option (List Nat)
  | [] => some []
  | s :: r => match numB s.data.toList, allB r with
    | some u, some l => some (u :: l)
    | _, _ => none
theorem allB_len : ∀ {ws : List ByteArray} {ns : List Nat}, allB ws = some ns → ns.length = ws.length
  | [], ns, h => by simp [allB] at h; subst h; rfl
  | s :: r, ns, h => by
    rw [allB] at h
    split at h
    · rename_i u l h1 h2
      injection h with h; subst h
      simp [allB_len h2]
    · cases h
theorem allB_snoc (s : ByteArray) : ∀ (ws : List ByteArray), allB (ws ++ [s]) = match allB ws, numB s.data.toList with
    | some l, some u => some (l ++ [u])
    | _, _ => none
  | [] => by
    simp only [List.nil_append, allB]
    cases numB s.data.toList <;> rfl
  | t :: r => by
    rw [List.cons_append, allB, allB_snoc s r, allB]
    cases numB t.data.toList <;> cases allB r <;> cases numB s.data.toList <;> rfl
theorem allB_none (r : List ByteArray) : ∀ (ws : List ByteArray), allB ws = none → allB (ws ++ r) = none
  | [], h => by simp [allB] at h
  | t :: l, h => by
    rw [List.cons_append, allB]
    rw [allB] at h
    cases h1 : numB t.data.toList with
    | none => rfl
    | some u =>
      cases h2 : allB l with
      | none => rw [allB_none r l h2]
      | some v => rw [h1, h2] at h; cases h
theorem allB_lt : ∀ {ws : List ByteArray} {ns : List Nat}, allB ws = some ns → ∀ u ∈ ns, u < 18446744073709551616
  | [], ns, h => by simp [allB] at h; subst h; simp
  | s :: r, ns, h => by
    rw [allB] at h
    split at h
    · rename_i u l h1 h2
      injection h with h; subst h
      intro v hv
      rcases List.mem_cons.1 hv with rfl | hv
      · exact (numB_some h1).1
      · exact allB_lt h2 v hv
    · cases h
def strs (l : List ByteArray) : List Value := l.map Value.string
def numsR (ws : List ByteArray) (many : Int) : Option (List Nat) := if (ws.length : Int) = many then allB ws else none
def NumsP (W : World) (base : Nat) (r : Option (List Nat)) (v : Value) (b : Bool) : Prop := match r with
  | some ns => b = true ∧ W.ownsRow base 22 1 v ns.length (nums ns)
  | none => b = false
def NumsE (base : Nat) (r : Option (List Nat)) (e : Ending) (W : World) : Prop := ∃ v b, e = .returned (.tuple #[v, .bool b]) ∧ NumsP W base r v b
theorem str_get {w : World} {A : Option Addr} {n : Nat} {l : List ByteArray} (h : Rd w 1 A n (strs l)) {i : Nat} (hi : i < n) : ∃ b o s, A = some ⟨b, o, none⟩ ∧ b < w.heap.size ∧ l[i]? = some s ∧ w.cell? ⟨b, o + i, none⟩ = some (.string s) := by
  obtain ⟨b, o, hA, hb, hc⟩ := h.2 (by omega)
  have hl : l.length = n := by have := h.1; simpa [strs] using this
  refine ⟨b, o, l[i]'(by omega), hA, hb, List.getElem?_eq_getElem (by omega), hc i _ ?_⟩
  rw [strs, List.getElem?_map, List.getElem?_eq_getElem (by omega)]; rfl
set_option maxRecDepth 20000 in
set_option maxHeartbeats 4000000 in
theorem numbers_any (A : Option Addr) (n c : Nat) (ws : List ByteArray) (many : Int) (w : World) (H : FmtAt w) (HP : PuAt w) (hn : n ≤ 1000) (hr : Rd w 1 A n (strs ws)) (hs : ∀ s ∈ ws, s.size ≤ 1000) :
    Calls Tryd.prog 17 #[.slice A n c, .int .i64 many] w fun e w' => NumsE w.heap.size (numsR ws many) e w' ∧ Nw w w' := by
  have HF := Lib.hid H
  have HPU := Lib.hid HP
  have HR := Lib.hid hr
  have HS := Lib.hid hs
  have hlen : ws.length = n := by have := hr.1; simpa [strs] using this
  have HLN := Lib.hid hlen
  clear H HP hr hs
  by_cases hm : (n : Int) = many
  · subst hm
    have hR := Lib.hid (show numsR ws (n : Int) = allB ws by rw [numsR, if_pos (by rw [hlen])])
    clear hlen
    go_enter Tryd.func17, Tryd.ntmps17
    go_wp2_with fail
    go_loopw [6, 8, 9, 10, 17] (fun a _ _ _ b wr => ∃ (i : Nat) (ns : List Nat), i ≤ n ∧ ns.length = i ∧ b = .int .i64 i ∧ Hid (allB (ws.take i) = some ns) ∧ wr.ownsRow w.heap.size 22 1 a i (nums ns) ∧ Nw w wr) (fun _ _ _ _ b _ => n - (intOf b).toNat)
    case atStart => exact ⟨0, [], by omega, rfl, rfl, rfl, World.ownsRow_nil _ _ _ _, (by repeat (first | exact Xt.Nw.refl _ | refine Xt.Nw.drew ?_ | refine Xt.Nw.drewN ?_ _ | refine Xt.Nw.alloc ?_ _ | refine Xt.Nw.joined ?_ | refine Xt.Nw.drewd ?_ | refine Xt.Nw.drewdN ?_ | refine Xt.Nw.ext ?_ | refine Xt.Nw.ext_some ?_ (by assumption) | refine Xt.Nw.setCell ?_ (by simp [go_sem] <;> omega) _))⟩
    case round =>
      obtain ⟨i, ns, hi, hnl, rfl, hal, hown, d, rfl⟩ := hrel
      by_cases hlt : i < n
      · obtain ⟨b, o, s, rfl, hb, hx, hc⟩ := str_get HR.out hlt
        haveI : In b w := ⟨hb⟩
        have hsn : allB (ws.take (i + 1)) = match numB s.data.toList with | some u => some (ns ++ [u]) | none => none := by
          obtain ⟨p1, q1⟩ := List.getElem?_eq_some_iff.1 hx
          rw [List.take_succ_eq_append_getElem p1, q1, allB_snoc, hal.out]
          cases numB s.data.toList <;> rfl
        have hss := HS.out s (List.mem_of_getElem? hx)
        have hin : (i : Int) < (n : Int) := by omega
        have hnum := Lib.hid (fun W (h1 : FmtAt W) (h2 : PuAt W) => number_any s W h1 h2 hss)
        have HX := Lib.hid hx
        clear hx hss hal
        cases hnb : numB s.data.toList with
        | none =>
          rw [hnb] at hsn hnum
          rw [show numV none = .tuple #[.int .u64 0, .bool false] from rfl] at hnum
          have hfin := Lib.hid (show allB ws = none by
            rw [← List.take_append_drop (i + 1) ws]; exact allB_none _ _ hsn)
          clear hsn hnb
          go_wp2_with fail
          refine (hnum.out _ (HF.out.nw ((by repeat (first | exact Xt.Nw.refl _ | refine Xt.Nw.drew ?_ | refine Xt.Nw.drewN ?_ _ | refine Xt.Nw.alloc ?_ _ | refine Xt.Nw.joined ?_ | refine Xt.Nw.drewd ?_ | refine Xt.Nw.drewdN ?_ | refine Xt.Nw.ext ?_ | refine Xt.Nw.ext_some ?_ (by assumption) | refine Xt.Nw.setCell ?_ (by simp [go_sem] <;> omega) _)))) (HPU.out.nw ((by repeat (first | exact Xt.Nw.refl _ | refine Xt.Nw.drew ?_ | refine Xt.Nw.drewN ?_ _ | refine Xt.Nw.alloc ?_ _ | refine Xt.Nw.joined ?_ | refine Xt.Nw.drewd ?_ | refine Xt.Nw.drewdN ?_ | refine Xt.Nw.ext ?_ | refine Xt.Nw.ext_some ?_ (by assumption) | refine Xt.Nw.setCell ?_ (by simp [go_sem] <;> omega) _))))).mono ?_
          rintro e w' ⟨rfl, dX, rfl⟩
          go_wp2
          refine bodyPost_ret (results_tmp2 rfl _ _ _) rfl ⟨⟨.slice none 0 0, false, rfl, ?_⟩, (by repeat (first | exact Xt.Nw.refl _ | refine Xt.Nw.drew ?_ | refine Xt.Nw.drewN ?_ _ | refine Xt.Nw.alloc ?_ _ | refine Xt.Nw.joined ?_ | refine Xt.Nw.drewd ?_ | refine Xt.Nw.drewdN ?_ | refine Xt.Nw.ext ?_ | refine Xt.Nw.ext_some ?_ (by assumption) | refine Xt.Nw.setCell ?_ (by simp [go_sem] <;> omega) _))⟩
          rw [hR.out, hfin.out]; rfl
        | some u =>
          rw [hnb] at hsn hnum
          rw [show numV (some u) = .tuple #[.int .u64 (u : Int), .bool true] from rfl] at hnum
          have hu := (numB_some hnb).1
          have HSN := Lib.hid hsn
          clear hsn hnb
          go_wp2_with fail
          refine (hnum.out _ (HF.out.nw ((by repeat (first | exact Xt.Nw.refl _ | refine Xt.Nw.drew ?_ | refine Xt.Nw.drewN ?_ _ | refine Xt.Nw.alloc ?_ _ | refine Xt.Nw.joined ?_ | refine Xt.Nw.drewd ?_ | refine Xt.Nw.drewdN ?_ | refine Xt.Nw.ext ?_ | refine Xt.Nw.ext_some ?_ (by assumption) | refine Xt.Nw.setCell ?_ (by simp [go_sem] <;> omega) _)))) (HPU.out.nw ((by repeat (first | exact Xt.Nw.refl _ | refine Xt.Nw.drew ?_ | refine Xt.Nw.drewN ?_ _ | refine Xt.Nw.alloc ?_ _ | refine Xt.Nw.joined ?_ | refine Xt.Nw.drewd ?_ | refine Xt.Nw.drewdN ?_ | refine Xt.Nw.ext ?_ | refine Xt.Nw.ext_some ?_ (by assumption) | refine Xt.Nw.setCell ?_ (by simp [go_sem] <;> omega) _))))).mono ?_
          rintro e w' ⟨rfl, dX, rfl⟩
          go_upto_region 10 with (fail)
          have hown2 := own_nw hown (show Nw (w.ext none d) ((w.ext none d).ext none dX) from ⟨_, rfl⟩)
          go_wp2_with (at_builtin; refine wpList_app1 rfl _ _ 41 rfl 22 (.int .u64 0) 1 8 Tryd.underlying41 u64Info rfl (by decide) w ((w.ext none d).ext none dX) ((by repeat (first | exact Xt.Nw.refl _ | refine Xt.Nw.drew ?_ | refine Xt.Nw.drewN ?_ _ | refine Xt.Nw.alloc ?_ _ | refine Xt.Nw.joined ?_ | refine Xt.Nw.drewd ?_ | refine Xt.Nw.drewdN ?_ | refine Xt.Nw.ext ?_ | refine Xt.Nw.ext_some ?_ (by assumption) | refine Xt.Nw.setCell ?_ (by simp [go_sem] <;> omega) _))) _ _ _ rfl (by exact hown2) _ 1 1 _ _ rfl rfl rfl (by intro z hz; simp at hz; subst hz; rfl) (by unfold maxLen; omega) (by omega) ?_; intro vA dA hownA)
          refine ⟨⟨i + 1, ns ++ [u], by omega, by simp; omega, by go_num, HSN.out, ?_, ⟨_, rfl⟩⟩, by first | (simp [intOf]; omega) | omega⟩
          simpa [nums] using hownA
      · have hin : ¬ (i : Int) < (n : Int) := by omega
        have hfin : allB ws = some ns := by
          have h := hal.out
          rw [List.take_of_length_le (by have := HLN.out; omega)] at h; exact h
        have HFN := Lib.hid hfin
        clear hfin hal
        go_wp2
        refine bodyPost_ret (results_tmp2 rfl _ _ _) rfl ⟨⟨_, true, rfl, ?_⟩, (by repeat (first | exact Xt.Nw.refl _ | refine Xt.Nw.drew ?_ | refine Xt.Nw.drewN ?_ _ | refine Xt.Nw.alloc ?_ _ | refine Xt.Nw.joined ?_ | refine Xt.Nw.drewd ?_ | refine Xt.Nw.drewdN ?_ | refine Xt.Nw.ext ?_ | refine Xt.Nw.ext_some ?_ (by assumption) | refine Xt.Nw.setCell ?_ (by simp [go_sem] <;> omega) _))⟩
        rw [hR.out, HFN.out]
        exact ⟨rfl, by rw [hnl]; exact hown⟩
  · have hd : ((n : Int) != many) = true := by simpa using hm
    have hR := Lib.hid (show numsR ws many = none by rw [numsR, if_neg (by rw [hlen]; exact hm)])
    clear hlen hm
    go_enter Tryd.func17, Tryd.ntmps17
    go_wp2
    refine bodyPost_ret (results_tmp2 rfl _ _ _) rfl ⟨⟨.slice none 0 0, false, rfl, ?_⟩, (by repeat (first | exact Xt.Nw.refl _ | refine Xt.Nw.drew ?_ | refine Xt.Nw.drewN ?_ _ | refine Xt.Nw.alloc ?_ _ | refine Xt.Nw.joined ?_ | refine Xt.Nw.drewd ?_ | refine Xt.Nw.drewdN ?_ | refine Xt.Nw.ext ?_ | refine Xt.Nw.ext_some ?_ (by assumption) | refine Xt.Nw.setCell ?_ (by simp [go_sem] <;> omega) _))⟩
    rw [hR.out]; rfl
end Go.Proofs.YtnldlkkmjabenaaDoor
