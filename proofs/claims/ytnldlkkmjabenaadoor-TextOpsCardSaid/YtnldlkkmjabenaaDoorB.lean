import Derived.Test.YtnldlkkmjabenaaDoorA
namespace Go.Proofs.YtnldlkkmjabenaaDoor
open Go.RowKit Go.Xt
/-- internal/strconv.FormatUint at base 10, at a world and at all that grow out of it. -/
def FmtAt (w : World) : Prop := ∀ (w' : World) (n : Nat), Nw w w' → n < 18446744073709551616 → Calls Tryd.prog 32 #[.int .u64 n, .int .i64 10] w' fun e w'' => e = .returned (.string ⟨(Lib.decDigits n).toArray⟩) ∧ Nw w' w''
theorem FmtAt.nw {w w' : World} (h : FmtAt w) (hw : Nw w w') : FmtAt w' := fun a n ha hn => h a n (hw.trans ha) hn
theorem fmt_any (w : World) (H : FmtAt w) (n : Nat) (hn : n < 18446744073709551616) :
    Calls Tryd.prog 26 #[.int .u64 n, .int .i64 10] w fun e w' => e = .returned (.string ⟨(Lib.decDigits n).toArray⟩) ∧ Nw w w' := by
  go_enter Tryd.func26, Tryd.ntmps26
  go_wp2_with (go_at_call 32; refine (H _ n (Nw.refl _) hn).mono ?_; rintro e w' ⟨rfl, dW, rfl⟩)
  go_ret
  exact ⟨rfl, (by repeat (first | exact Xt.Nw.refl _ | refine Xt.Nw.drew ?_ | refine Xt.Nw.drewN ?_ _ | refine Xt.Nw.alloc ?_ _ | refine Xt.Nw.joined ?_ | refine Xt.Nw.drewd ?_ | refine Xt.Nw.drewdN ?_ | refine Xt.Nw.ext ?_ | refine Xt.Nw.ext_some ?_ (by assumption) | refine Xt.Nw.setCell ?_ (by simp [go_sem] <;> omega) _))⟩
/-- A word and numbers, a blank ahead of each. -/
def jn (b : List UInt8) (l : List Nat) : List UInt8 := l.foldl (fun b n => b ++ (32 :: Lib.decDigits n)) b
def nums (l : List Nat) : List Value := l.map fun (n : Nat) => Value.int .u64 (n : Int)
set_option maxHeartbeats 1000000 in
theorem join_any (b : List UInt8) (A : Option Addr) (n c : Nat) (l : List Nat) (w : World) (H : FmtAt w) (hn : n ≤ 1000) (hb : b.length ≤ 1000000000) (hl : ∀ x ∈ l, x < 18446744073709551616) (hr : Rd w 1 A n (nums l)) :
    Calls Tryd.prog 14 #[.string ⟨b.toArray⟩, .slice A n c] w fun e w' => e = .returned (.string ⟨(jn b l).toArray⟩) ∧ Nw w w' := by
  have hln : l.length = n := by simpa [nums] using hr.1
  have HR := Lib.hid hr
  have HF := Lib.hid H
  clear hr H
  go_enter Tryd.func14, Tryd.ntmps14
  go_wp2
  go_loopw [0, 6, 9] (fun s x i wr => ∃ (k : Nat) (bs : List UInt8), k ≤ n ∧ s = .string ⟨bs.toArray⟩ ∧ i = .int .i64 k ∧ bs = jn b (l.take k) ∧ bs.length ≤ b.length + 21 * k ∧ Nw w wr) (fun _ _ i _ => n - (intOf i).toNat)
  case atStart => exact ⟨0, b, by omega, rfl, rfl, by simp [jn], by omega, Nw.refl _⟩
  case round =>
    obtain ⟨k, bs, hk, rfl, rfl, hbs, hlen, d, rfl⟩ := hrel
    have HB := Lib.hid hbs
    clear hbs
    by_cases hlt : k < n
    · obtain ⟨g, o, rfl, hg, hc⟩ := HR.out.2 (by omega)
      obtain ⟨x, hx⟩ : ∃ x, l[k]? = some x := ⟨l[k]'(by omega), List.getElem?_eq_getElem (by omega)⟩
      have hcx : w.cell? ⟨g, o + k, none⟩ = some (.int .u64 (x : Int)) := hc k _ (by simp [nums, hx])
      have hx64 : x < 18446744073709551616 := hl x (List.mem_of_getElem? hx)
      have HX := Lib.hid hx
      have hx20 := dec_len x hx64
      haveI : In g w := ⟨hg⟩
      clear hc hx
      go_wp2_with (go_at_call 26; refine (fmt_any _ (HF.out.nw ((by repeat (first | exact Xt.Nw.refl _ | refine Xt.Nw.drew ?_ | refine Xt.Nw.drewN ?_ _ | refine Xt.Nw.alloc ?_ _ | refine Xt.Nw.joined ?_ | refine Xt.Nw.drewd ?_ | refine Xt.Nw.drewdN ?_ | refine Xt.Nw.ext ?_ | refine Xt.Nw.ext_some ?_ (by assumption) | refine Xt.Nw.setCell ?_ (by simp [go_sem] <;> omega) _)))) x hx64).mono ?_; rintro e w' ⟨rfl, dW, rfl⟩)
      all_goals first | (exfalso; omega) | skip
      refine ⟨⟨k + 1, bs ++ (32 :: Lib.decDigits x), by omega, ret_s _ _ (by rw [ba_app, ba_app]; simp), by go_num, ?_, by simp; omega, (by repeat (first | exact Xt.Nw.refl _ | refine Xt.Nw.drew ?_ | refine Xt.Nw.drewN ?_ _ | refine Xt.Nw.alloc ?_ _ | refine Xt.Nw.joined ?_ | refine Xt.Nw.drewd ?_ | refine Xt.Nw.drewdN ?_ | refine Xt.Nw.ext ?_ | refine Xt.Nw.ext_some ?_ (by assumption) | refine Xt.Nw.setCell ?_ (by simp [go_sem] <;> omega) _))⟩, by simp [intOf]; omega⟩
      obtain ⟨p1, p2⟩ := List.getElem?_eq_some_iff.1 HX.out
      rw [List.take_succ_eq_append_getElem p1, p2, HB.out]
      simp [jn]
    · go_wp2
      go_ret
      refine ⟨ret_eq (ret_s _ _ ?_), (by repeat (first | exact Xt.Nw.refl _ | refine Xt.Nw.drew ?_ | refine Xt.Nw.drewN ?_ _ | refine Xt.Nw.alloc ?_ _ | refine Xt.Nw.joined ?_ | refine Xt.Nw.drewd ?_ | refine Xt.Nw.drewdN ?_ | refine Xt.Nw.ext ?_ | refine Xt.Nw.ext_some ?_ (by assumption) | refine Xt.Nw.setCell ?_ (by simp [go_sem] <;> omega) _))⟩
      rw [HB.out, List.take_of_length_le (by omega)]
end Go.Proofs.YtnldlkkmjabenaaDoor
