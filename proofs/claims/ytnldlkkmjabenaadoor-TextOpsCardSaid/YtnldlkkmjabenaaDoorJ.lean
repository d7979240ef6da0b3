import Derived.Test.YtnldlkkmjabenaaDoorI
import Derived.Test.YtnldlkkmjabenaaDoorC
import Derived.Shelf.Pu.ErrVarParseUint
import Derived.Lib.ParseIntBCases
namespace Go.Proofs.YtnldlkkmjabenaaDoor
open Go.RowKit Go.Xt
/-! Numbers read. -/
/-- The number that a word says. -/
def numB (l : List UInt8) : Option Nat := match Lib.parseUintB 64 l with
  | .ok u => if Lib.decDigits u = l then some u else none
  | _ => none
theorem numB_some {l : List UInt8} {u : Nat} (h : numB l = some u) : u < 18446744073709551616 ∧ l = Lib.decDigits u := by
  unfold numB at h
  split at h
  · rename_i v hv
    split at h
    · rename_i he
      injection h with h; subst h
      exact ⟨by have := Lib.parseUintB_le hv; omega, he.symm⟩
    · cases h
  · cases h
theorem parse_app (M : Nat) (c : UInt8) : ∀ (l : List UInt8) (acc u : Nat), Lib.parseUintM M acc l = .ok u → Lib.parseUintM M acc (l ++ [c]) = Lib.parseUintM M u [c]
  | [], acc, u, h => by
    simp only [Lib.parseUintM] at h
    injection h with h; subst h; rfl
  | d :: r, acc, u, h => by
    rw [List.cons_append]
    rw [Lib.parseUintM] at h ⊢
    split at h
    · rename_i h1
      rw [if_pos h1]
      split at h
      · cases h
      · rename_i h2
        rw [if_neg h2]
        split at h
        · cases h
        · rename_i h3
          rw [if_neg h3]
          exact parse_app M c r _ u h
    · cases h
theorem dig_nat {d : Nat} (h : d < 10) : (UInt8.ofNat (48 + d)).toNat = 48 + d := by
  rw [UInt8.toNat_ofNat']; omega
theorem parse_dec (u : Nat) : u < 18446744073709551616 → Lib.parseUintM 18446744073709551615 0 (Lib.decDigits u) = .ok u := by
  induction u using Nat.strongRecOn with
  | ind u ih =>
    intro hu
    by_cases h : u < 10
    · rw [Lib.decDigits_one h, Lib.parseUintM, dig_nat h, if_pos (by omega), if_neg (by omega), if_neg (by omega)]
      simp [Lib.parseUintM]
    · rw [Lib.decDigits, dif_neg h, parse_app _ _ _ _ _ (ih (u / 10) (by omega) (by omega)), Lib.parseUintM, dig_nat (by omega), if_pos (by omega), if_neg (by omega), if_neg (by omega)]
      simp only [Lib.parseUintM]
      congr 1; omega
theorem numB_dec {u : Nat} (hu : u < 18446744073709551616) : numB (Lib.decDigits u) = some u := by
  have h1 : Lib.parseUintB 64 (Lib.decDigits u) = .ok u := by
    rw [Lib.parseUintB, if_neg (by intro e; have := dec_pos u; rw [e] at this; simp at this)]
    exact parse_dec u hu
  rw [numB, h1]; simp
/-- strconv.ParseUint at base 10 and 64 bits, at a world and at all that grow out of it. -/
def PuAt (w : World) : Prop := ∀ (w' : World) (s : ByteArray), Nw w w' → s.size ≤ 281474976710656 →
  Calls Tryd.prog 36 #[.string s, .int .i64 10, .int .i64 64] w' fun e w'' => (∃ (z : Nat) (v : Value), e = .returned (.tuple #[.int .u64 (z : Int), v]) ∧ ((Lib.parseUintB 64 s.data.toList = .ok z ∧ v = .nilIface) ∨ ((∀ u, Lib.parseUintB 64 s.data.toList ≠ .ok u) ∧ ∃ t p, v = .iface t p))) ∧ Nw w' w''
theorem PuAt.nw {w w' : World} (h : PuAt w) (hw : Nw w w') : PuAt w' := fun a s ha hs => h a s (hw.trans ha) hs
theorem var_nw {P : Program} {w w' : World} {name : String} {cs : Array Value} (h : w.var? P name = some cs) (hw : Nw w w') : w'.var? P name = some cs := by
  unfold World.var? at *
  cases hg : P.globalNamed name with
  | none => simp [hg] at h
  | some g =>
    simp only [hg, Option.bind_some] at h ⊢
    have hlt : g < w.heap.size := by
      rcases Nat.lt_or_ge g w.heap.size with h' | h'
      · exact h'
      · rw [Array.getElem?_eq_none h'] at h; simp at h
    rw [hw.grown.block g hlt (by simp)]
    exact h
theorem puAt (w : World) (hs : ∃ t p, w.var? Tryd.prog "strconv.ErrSyntax" = some #[.iface t p]) (hr : ∃ t p, w.var? Tryd.prog "strconv.ErrRange" = some #[.iface t p]) : PuAt w := by
  intro w' s hw hsz
  rcases h : Lib.parseUintB 64 s.data.toList with u | _ | _
  · refine (Any.strconv_ParseUint_10_at64_ok prsU s (by omega) u h w').mono ?_
    rintro e W ⟨he, hW⟩
    refine ⟨⟨u, .nilIface, he, .inl ⟨rfl, rfl⟩⟩, ?_⟩
    rcases hW with rfl | rfl
    · exact Nw.refl _
    · exact .of_below (Lib.bytesWorld_below _ _ _)
  · obtain ⟨t, p, hv⟩ := hs
    refine (Any.strconv_ParseUint_10_at64_syntax_var prsU s hsz h t p w' (var_nw hv hw)).mono ?_
    rintro e W ⟨N, he, _, _, hb⟩
    exact ⟨⟨0, _, he, .inr ⟨fun u hu => (by cases hu), _, _, rfl⟩⟩, .of_below hb⟩
  · obtain ⟨t, p, hv⟩ := hr
    refine (Any.strconv_ParseUint_10_at64_range_var prsU s hsz h t p w' (var_nw hv hw)).mono ?_
    rintro e W ⟨N, he, _, _, hb⟩
    exact ⟨⟨18446744073709551615, _, he, .inr ⟨fun u hu => (by cases hu), _, _, rfl⟩⟩, .of_below hb⟩
end Go.Proofs.YtnldlkkmjabenaaDoor
