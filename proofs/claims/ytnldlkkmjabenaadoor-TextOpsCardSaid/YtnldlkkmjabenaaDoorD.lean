import Derived.Test.YtnldlkkmjabenaaDoorB
namespace Go.Proofs.YtnldlkkmjabenaaDoor
open Go.RowKit Go.Xt
def jnB (s : ByteArray) (l : List Nat) : ByteArray := ⟨(jn s.data.toList l).toArray⟩
theorem jn_len (l : List Nat) : ∀ (b : List UInt8), (∀ x ∈ l, x < 18446744073709551616) → (jn b l).length ≤ b.length + 21 * l.length := by
  induction l with
  | nil => intro b _; simp [jn]
  | cons x l ih =>
    intro b h
    have h1 := ih (b ++ (32 :: Lib.decDigits x)) (fun y hy => h y (by simp [hy]))
    have h2 := dec_len x (h x (by simp))
    simp [jn] at h1 ⊢
    omega
def Txt (s s' : ByteArray) (n : Nat) : Prop := s'.size ≤ s.size + n
/-- join at one number just built. -/
theorem join1 (s : ByteArray) (g : Nat) (x : Int) (T : TypeId) (w : World) (H : FmtAt w) (hg : g = w.heap.size) (hs : s.size ≤ 1000000000) (h0 : 0 ≤ x) (hx : x < 18446744073709551616) :
    Calls Tryd.prog 14 #[.string s, .slice (some ⟨g, 0, none⟩) 1 1] (w.alloc (.cells #[.int .u64 x] T)) fun e w' => ∃ s', (e = .returned (.string s') ∧ Hid (s' = jnB s [x.toNat]) ∧ s'.size ≤ s.size + 21) ∧ Nw (w.alloc (.cells #[.int .u64 x] T)) w' := by
  subst hg
  obtain ⟨n, rfl⟩ : ∃ n : Nat, x = n := ⟨x.toNat, by omega⟩
  have hsz : s.data.toList.length = s.size := by rw [Array.length_toList]; rfl
  have hn : ∀ y ∈ [n], y < 18446744073709551616 := by intro y hy; rw [List.mem_singleton] at hy; omega
  have hr : Rd (w.alloc (.cells #[.int .u64 (n : Int)] T)) 1 (some ⟨w.heap.size, 0, none⟩) 1 (nums [n]) :=
    ⟨rfl, fun _ => ⟨_, 0, rfl, by simp, fun j u hu => by
      have : j = 0 := by have := (List.getElem?_eq_some_iff.1 hu).1; simp [nums] at this; omega
      subst this
      rw [World.cell?_alloc_new]
      exact hu⟩⟩
  have hj := join_any s.data.toList (some ⟨w.heap.size, 0, none⟩) 1 1 [n] (w.alloc (.cells #[.int .u64 (n : Int)] T)) (H.nw ((by repeat (first | exact Xt.Nw.refl _ | refine Xt.Nw.drew ?_ | refine Xt.Nw.drewN ?_ _ | refine Xt.Nw.alloc ?_ _ | refine Xt.Nw.joined ?_ | refine Xt.Nw.drewd ?_ | refine Xt.Nw.drewdN ?_ | refine Xt.Nw.ext ?_ | refine Xt.Nw.ext_some ?_ (by assumption) | refine Xt.Nw.setCell ?_ (by simp [go_sem] <;> omega) _)))) (by omega) (by omega) hn hr
  refine Calls.mono hj ?_
  rintro e w' ⟨rfl, hw⟩
  refine ⟨_, ⟨rfl, ?_, ?_⟩, hw⟩
  · show _ = _
    rw [jnB, Int.toNat_natCast]
  · have h1 := jn_len [n] s.data.toList hn
    have h3 : (⟨(jn s.data.toList [n]).toArray⟩ : ByteArray).size = (jn s.data.toList [n]).length := rfl
    simp only [List.length_singleton] at h1
    omega
theorem ba_sz (a b : ByteArray) : (a ++ b).size = a.size + b.size := ByteArray.size_append
theorem ba_lit (a : Array UInt8) : (⟨a⟩ : ByteArray).size = a.size := rfl
/-- A part of a result's line. -/
def part (lbl : ByteArray) (x : Int) (s : ByteArray) : ByteArray := if x = 0 then s else jnB (s ++ lbl) [x.toNat]
def resB (e : Int) (f : Bool) (k v c : Int) : ByteArray :=
  let s := if e = 0 then ⟨#[111, 107]⟩ else jnB ⟨#[101, 114, 114, 111, 114]⟩ [e.toNat]
  let s := if f then s ++ ⟨#[32, 102, 111, 117, 110, 100]⟩ else s
  part ⟨#[32, 99, 111, 117, 110, 116]⟩ c (part ⟨#[32, 118, 97, 108, 117, 101]⟩ v (part ⟨#[32, 107, 101, 121]⟩ k s))
abbrev vRes (e : Int) (f : Bool) (k v c : Int) : Value := .agg #[.int .i64 e, .bool f, .int .u64 k, .int .u64 v, .int .i64 c]
set_option maxHeartbeats 4000000 in
theorem result_any (e : Int) (f : Bool) (k v c : Int) (w : World) (H : FmtAt w) (he : 0 ≤ e ∧ e ≤ 23) (hk : 0 ≤ k ∧ k < 18446744073709551616) (hv : 0 ≤ v ∧ v < 18446744073709551616) (hc : 0 ≤ c ∧ c ≤ 9223372036854775807) :
    Calls Tryd.prog 11 #[vRes e f k v c] w fun en w' => en = .returned (.tuple #[.string (resB e f k v c), .int .i64 0]) ∧ Nw w w' := by
  obtain ⟨he0, he1⟩ := he
  obtain ⟨hk0, hk1⟩ := hk
  obtain ⟨hv0, hv1⟩ := hv
  obtain ⟨hc0, hc1⟩ := hc
  have HF := Lib.hid H
  clear H
  have d1 : decide (e < 0) = false := by simp; omega
  have d2 : decide (23 < e) = false := by simp; omega
  have d3 : decide (c < 0) = false := by simp; omega
  have we : IntKind.u64.wrap e = e := by rw [IntKind.wrap_u64]; omega
  have wc : IntKind.u64.wrap c = c := by rw [IntKind.wrap_u64]; omega
  go_enter Tryd.func11, Tryd.ntmps11
  go_wp2_with (go_at_call 14; refine (join1 _ _ _ _ _ (HF.out.nw ((by repeat (first | exact Xt.Nw.refl _ | refine Xt.Nw.drew ?_ | refine Xt.Nw.drewN ?_ _ | refine Xt.Nw.alloc ?_ _ | refine Xt.Nw.joined ?_ | refine Xt.Nw.drewd ?_ | refine Xt.Nw.drewdN ?_ | refine Xt.Nw.ext ?_ | refine Xt.Nw.ext_some ?_ (by assumption) | refine Xt.Nw.setCell ?_ (by simp [go_sem] <;> omega) _)))) (by simp) (by simp only [ba_sz, ba_lit, List.size_toArray, List.length_cons, List.length_nil] <;> omega) (by assumption) (by omega)).mono ?_; rintro e w' ⟨s', ⟨rfl, hs', hz'⟩, dW, rfl⟩; simp only [ba_sz, ba_lit, List.size_toArray, List.length_cons, List.length_nil] at hz')
  all_goals first
    | (exfalso; simp only [ba_sz, ba_lit, List.size_toArray, List.length_cons, List.length_nil] at *; omega)
    | (refine bodyPost_ret (results_tmp2 rfl _ _ _) rfl ⟨ret_eq ?_, (by repeat (first | exact Xt.Nw.refl _ | refine Xt.Nw.drew ?_ | refine Xt.Nw.drewN ?_ _ | refine Xt.Nw.alloc ?_ _ | refine Xt.Nw.joined ?_ | refine Xt.Nw.drewd ?_ | refine Xt.Nw.drewdN ?_ | refine Xt.Nw.ext ?_ | refine Xt.Nw.ext_some ?_ (by assumption) | refine Xt.Nw.setCell ?_ (by simp [go_sem] <;> omega) _))⟩
       simp_all [resB, part, Hid])
end Go.Proofs.YtnldlkkmjabenaaDoor
