import Derived.Test.YtnldlkkmjabenaaDoorChecked
import Derived.Test.YtnldlkkmjabenaaDoorLib2
import Derived.Lib.ItoaNum
import Derived.Lib.Walk
namespace Go.Proofs.YtnldlkkmjabenaaDoor
open Go.RowKit Go.Xt
theorem dec_len (u : Nat) (hu : u < 18446744073709551616) : (Lib.decDigits u).length ≤ 20 := by
  rw [Lib.decDigits_length]
  rcases Nat.eq_zero_or_pos u with rfl | h1
  · rw [Lib.nDigits_small (by omega)]; omega
  · have := Lib.numDigits_eq u h1 hu; split at this <;> omega
theorem dec_pos (u : Nat) : 0 < (Lib.decDigits u).length := by rw [Lib.decDigits_length]; have := Lib.nDigits_pos u; omega
theorem ba_app (a b : Array UInt8) : (⟨a⟩ ++ ⟨b⟩ : ByteArray) = ⟨a ++ b⟩ := by
  apply ByteArray.ext; simp [ByteArray.data_append]
theorem ret_s (a b : ByteArray) (h : a = b) : Value.string a = .string b := by rw [h]
/-- One byte, as a string. -/
theorem str1 (w : World) (z : Int) (b : Nat) (c : UInt8) (hz : z = (b : Int)) (hb : b < 256) (hc : Hid (c = UInt8.ofNat b)) (T : TypeId) : (convert 63 9 (.slice (some ⟨w.heap.size, 0, none⟩) 1 1)).run Tryd.prog (w.alloc (.cells #[.int .u8 z] T)) = .ok (.string ⟨#[c]⟩) (w.alloc (.cells #[.int .u8 z] T)) := by
  have hc' := hc.out
  subst hz hc'
  have h := run_convert_bytes_back (P := Tryd.prog) (w.alloc (.cells #[.int .u8 (b : Int)] T)) 63 9 5 ⟨w.heap.size, 0, none⟩ 1 [UInt8.ofNat b] Tryd.underlying63 Tryd.underlying5 Tryd.underlying9 (fun j hj => by
    have : j = 0 := by simp at hj; omega
    subst this
    rw [add_at, World.cell?_alloc_new]
    simp [Nat.mod_eq_of_lt hb])
  exact h
set_option maxHeartbeats 1000000 in
set_option maxRecDepth 20000 in
theorem digits_any (n : Nat) (hn : n < 18446744073709551616) (w : World) :
    Calls Tryd.prog 23 #[.int .u64 n] w fun e w' => e = .returned (.string ⟨(Lib.decDigits n).toArray⟩) ∧ Nw w w' := by
  go_enter Tryd.func23, Tryd.ntmps23
  go_wp2
  go_loopw [0, 3] (fun a s wr => ∃ (m : Nat) (l : List UInt8), m ≤ n ∧ a = .int .u64 m ∧ s = .string ⟨l.toArray⟩ ∧ Lib.decDigits n = Lib.decDigits m ++ l ∧ Nw w wr) (fun a _ _ => (intOf a).toNat)
  case atStart => exact ⟨n, [], Nat.le_refl _, rfl, rfl, by simp, Nw.refl _⟩
  case round =>
    obtain ⟨m, l, hm, rfl, rfl, hd, d, rfl⟩ := hrel
    have hl : l.length ≤ 20 := by have h1 := dec_len n hn; rw [hd] at h1; simp at h1; omega
    have HD := Lib.hid hd
    clear hd
    by_cases hlt : 9 < m
    · obtain ⟨c, hc⟩ : ∃ c : UInt8, c = UInt8.ofNat (48 + m % 10) := ⟨_, rfl⟩
      have HC := Lib.hid hc
      clear hc
      go_wp2
      rw [str1 _ (48 + (m : Int) % 10) (48 + m % 10) c (by omega) (by omega) HC]
      go_wp2
      refine ⟨⟨m / 10, c :: l, by omega, by go_num, ret_s _ _ (by rw [ba_app]; simp), ?_, (by repeat (first | exact Xt.Nw.refl _ | refine Xt.Nw.drew ?_ | refine Xt.Nw.drewN ?_ _ | refine Xt.Nw.alloc ?_ _ | refine Xt.Nw.joined ?_ | refine Xt.Nw.drewd ?_ | refine Xt.Nw.drewdN ?_ | refine Xt.Nw.ext ?_ | refine Xt.Nw.ext_some ?_ (by assumption) | refine Xt.Nw.setCell ?_ (by simp [go_sem] <;> omega) _))⟩, by simp [intOf]; omega⟩
      rw [HD.out, Lib.decDigits, dif_neg (by omega), HC.out]; simp
    · obtain ⟨c, hc⟩ : ∃ c : UInt8, c = UInt8.ofNat (48 + m) := ⟨_, rfl⟩
      have HC := Lib.hid hc
      clear hc
      go_wp2
      rw [str1 _ (48 + (m : Int)) (48 + m) c (by omega) (by omega) HC]
      go_wp2
      go_ret
      refine ⟨ret_eq (ret_s _ _ ?_), (by repeat (first | exact Xt.Nw.refl _ | refine Xt.Nw.drew ?_ | refine Xt.Nw.drewN ?_ _ | refine Xt.Nw.alloc ?_ _ | refine Xt.Nw.joined ?_ | refine Xt.Nw.drewd ?_ | refine Xt.Nw.drewdN ?_ | refine Xt.Nw.ext ?_ | refine Xt.Nw.ext_some ?_ (by assumption) | refine Xt.Nw.setCell ?_ (by simp [go_sem] <;> omega) _))⟩
      rw [HD.out, Lib.decDigits, dif_pos (by omega), HC.out, ba_app]; simp
end Go.Proofs.YtnldlkkmjabenaaDoor
