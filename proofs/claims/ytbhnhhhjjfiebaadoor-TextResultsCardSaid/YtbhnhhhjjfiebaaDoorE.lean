import Derived.Test.YtbhnhhhjjfiebaaDoorD
namespace Go.Proofs.YtbhnhhhjjfiebaaDoor
open Go.RowKit Go.Xt
def rjn (s : ByteArray) (n : Nat) : ByteArray := s ++ ⟨(Lib.decDigits n).toArray⟩
def rpart (lbl : ByteArray) (x : Int) (s : ByteArray) : ByteArray := if x = 0 then s else rjn (s ++ lbl) x.toNat
def rresB (e : Int) (f : Bool) (k v c : Int) : ByteArray :=
  let s := if e = 0 then ⟨#[111, 107]⟩ else rjn ⟨#[101, 114, 114, 111, 114, 32]⟩ e.toNat
  let s := if f then s ++ ⟨#[32, 102, 111, 117, 110, 100]⟩ else s
  rpart ⟨#[32, 99, 111, 117, 110, 116, 32]⟩ c (rpart ⟨#[32, 118, 97, 108, 117, 101, 32]⟩ v (rpart ⟨#[32, 107, 101, 121, 32]⟩ k s))
theorem rjn_eq (s : ByteArray) (a b : Array UInt8) (n : Nat) (h : b = a ++ #[32]) : rjn (s ++ ⟨b⟩) n = jnB (s ++ ⟨a⟩) [n] := by
  subst h
  apply ByteArray.ext
  simp [rjn, jnB, jn, ByteArray.data_append]
theorem rjn_eq0 (a b : Array UInt8) (n : Nat) (h : b = a ++ #[32]) : rjn ⟨b⟩ n = jnB ⟨a⟩ [n] := by
  subst h
  apply ByteArray.ext
  simp [rjn, jnB, jn, ByteArray.data_append]
theorem rres_eq (e : Int) (f : Bool) (k v c : Int) : rresB e f k v c = resB e f k v c := by
  have p (a b : Array UInt8) (h : b = a ++ #[32]) (x : Int) (s : ByteArray) : rpart ⟨b⟩ x s = part ⟨a⟩ x s := by rw [rpart, part, rjn_eq s a b _ h]
  unfold rresB resB
  dsimp only
  rw [p #[32, 99, 111, 117, 110, 116] #[32, 99, 111, 117, 110, 116, 32] rfl, p #[32, 118, 97, 108, 117, 101] #[32, 118, 97, 108, 117, 101, 32] rfl, p #[32, 107, 101, 121] #[32, 107, 101, 121, 32] rfl, rjn_eq0 #[101, 114, 114, 111, 114] #[101, 114, 114, 111, 114, 32] _ rfl]
/-- The reference's digits, as an opaque string. -/
theorem digits1 (x : Int) (w : World) (h0 : 0 ≤ x) (hx : x < 18446744073709551616) :
    Calls Tryd.prog 7 #[.int .u64 x] w fun e w' => ∃ s', (e = .returned (.string s') ∧ Hid (s' = ⟨(Lib.decDigits x.toNat).toArray⟩) ∧ s'.size ≤ 20) ∧ Nw w w' := by
  obtain ⟨n, rfl⟩ : ∃ n : Nat, x = n := ⟨x.toNat, by omega⟩
  refine (digits_any n (by omega) w).mono ?_
  rintro e w' ⟨rfl, hw⟩
  refine ⟨_, ⟨rfl, ?_, ?_⟩, hw⟩
  · show _ = _
    rw [Int.toNat_natCast]
  · have h3 : (⟨(Lib.decDigits n).toArray⟩ : ByteArray).size = (Lib.decDigits n).length := rfl
    have := dec_len n (by omega)
    omega
set_option maxHeartbeats 4000000 in
theorem rresult_any0 (e : Int) (f : Bool) (k v c : Int) (w : World) (he : 0 ≤ e ∧ e ≤ 23) (hk : 0 ≤ k ∧ k < 18446744073709551616) (hv : 0 ≤ v ∧ v < 18446744073709551616) (hc : 0 ≤ c ∧ c ≤ 9223372036854775807) :
    Calls Tryd.prog 5 #[vRes e f k v c] w fun en w' => en = .returned (.tuple #[.string (rresB e f k v c), .int .i64 0]) ∧ Nw w w' := by
  obtain ⟨he0, he1⟩ := he
  obtain ⟨hk0, hk1⟩ := hk
  obtain ⟨hv0, hv1⟩ := hv
  obtain ⟨hc0, hc1⟩ := hc
  have d1 : decide (e < 0) = false := by simp; omega
  have d2 : decide (23 < e) = false := by simp; omega
  have d3 : decide (c < 0) = false := by simp; omega
  have we : IntKind.u64.wrap e = e := by rw [IntKind.wrap_u64]; omega
  have wc : IntKind.u64.wrap c = c := by rw [IntKind.wrap_u64]; omega
  go_enter Tryd.func5, Tryd.ntmps5
  go_wp2_with (go_at_call 7; refine (digits1 _ _ (by assumption) (by omega)).mono ?_; rintro e w' ⟨s', ⟨rfl, hs', hz'⟩, dW, rfl⟩)
  all_goals first
    | (exfalso; simp only [ba_sz, ba_lit, List.size_toArray, List.length_cons, List.length_nil] at *; omega)
    | (refine bodyPost_ret (results_tmp2 rfl _ _ _) rfl ⟨ret_eq ?_, (by repeat (first | exact Xt.Nw.refl _ | refine Xt.Nw.drew ?_ | refine Xt.Nw.drewN ?_ _ | refine Xt.Nw.alloc ?_ _ | refine Xt.Nw.joined ?_ | refine Xt.Nw.drewd ?_ | refine Xt.Nw.drewdN ?_ | refine Xt.Nw.ext ?_ | refine Xt.Nw.ext_some ?_ (by assumption) | refine Xt.Nw.setCell ?_ (by simp [go_sem] <;> omega) _))⟩
       simp_all [rresB, rpart, rjn, Hid])
theorem rresult_any (e : Int) (f : Bool) (k v c : Int) (w : World) (he : 0 ≤ e ∧ e ≤ 23) (hk : 0 ≤ k ∧ k < 18446744073709551616) (hv : 0 ≤ v ∧ v < 18446744073709551616) (hc : 0 ≤ c ∧ c ≤ 9223372036854775807) :
    Calls Tryd.prog 5 #[vRes e f k v c] w fun en w' => en = .returned (.tuple #[.string (resB e f k v c), .int .i64 0]) ∧ Nw w w' := by
  rw [← rres_eq]; exact rresult_any0 e f k v c w he hk hv hc
/-- A result that is refused. -/
def Bad (e c : Int) : Prop := e < 0 ∨ 23 < e ∨ c < 0
set_option maxHeartbeats 1000000 in
theorem result_bad (e : Int) (f : Bool) (k v c : Int) (w : World) (hb : Bad e c) :
    Calls Tryd.prog 4 #[vRes e f k v c] w fun en w' => en = .returned (.tuple #[.string ⟨#[]⟩, .int .i64 2]) ∧ Nw w w' := by
  rcases hb with h | h | h
  all_goals
    go_enter Tryd.func4, Tryd.ntmps4
    go_wp2_with fail
    all_goals first
      | (exfalso; simp_all <;> omega)
      | (refine bodyPost_ret (results_tmp2 rfl _ _ _) rfl ⟨rfl, (by repeat (first | exact Xt.Nw.refl _ | refine Xt.Nw.drew ?_ | refine Xt.Nw.drewN ?_ _ | refine Xt.Nw.alloc ?_ _ | refine Xt.Nw.joined ?_ | refine Xt.Nw.drewd ?_ | refine Xt.Nw.drewdN ?_ | refine Xt.Nw.ext ?_ | refine Xt.Nw.ext_some ?_ (by assumption) | refine Xt.Nw.setCell ?_ (by simp [go_sem] <;> omega) _))⟩)
set_option maxHeartbeats 1000000 in
theorem rresult_bad (e : Int) (f : Bool) (k v c : Int) (w : World) (hb : Bad e c) :
    Calls Tryd.prog 5 #[vRes e f k v c] w fun en w' => en = .returned (.tuple #[.string ⟨#[]⟩, .int .i64 2]) ∧ Nw w w' := by
  rcases hb with h | h | h
  all_goals
    go_enter Tryd.func5, Tryd.ntmps5
    go_wp2_with fail
    all_goals first
      | (exfalso; simp_all <;> omega)
      | (refine bodyPost_ret (results_tmp2 rfl _ _ _) rfl ⟨rfl, (by repeat (first | exact Xt.Nw.refl _ | refine Xt.Nw.drew ?_ | refine Xt.Nw.drewN ?_ _ | refine Xt.Nw.alloc ?_ _ | refine Xt.Nw.joined ?_ | refine Xt.Nw.drewd ?_ | refine Xt.Nw.drewdN ?_ | refine Xt.Nw.ext ?_ | refine Xt.Nw.ext_some ?_ (by assumption) | refine Xt.Nw.setCell ?_ (by simp [go_sem] <;> omega) _))⟩)
end Go.Proofs.YtbhnhhhjjfiebaaDoor
