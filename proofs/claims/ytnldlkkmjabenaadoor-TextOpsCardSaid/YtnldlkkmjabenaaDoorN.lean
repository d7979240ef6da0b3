import Derived.Test.YtnldlkkmjabenaaDoorM
namespace Go.Proofs.YtnldlkkmjabenaaDoor
open Go.RowKit Go.Xt
/-! The fixed line that each statement evaluates. -/
def scan39 : ByteArray := ⟨#[115, 99, 97, 110, 32, 51, 32, 57]⟩
theorem scan_words : wordsB scan39 = [⟨#[115, 99, 97, 110]⟩, ⟨#[51]⟩, ⟨#[57]⟩] := by decide +kernel
theorem scan_parse : parseW scan39 (wordsB scan39) = (⟨11, 3, 9, 0, 0, 0, 0⟩, 0) := by
  have h3 : numB [51] = some 3 := by
    have := numB_dec (u := 3) (by omega); rwa [Lib.decDigits_one (by omega)] at this
  have h9 : numB [57] = some 9 := by
    have := numB_dec (u := 9) (by omega); rwa [Lib.decDigits_one (by omega)] at this
  rw [scan_words]
  have hk : kindOf [115, 99, 97, 110] = some 11 := by decide +kernel
  have hn : numsR [⟨#[51]⟩, ⟨#[57]⟩] ((offs 11).length : Nat) = some [3, 9] := by
    rw [numsR, if_pos (by decide)]
    simp only [allB, h3, h9]
  have hne : ¬ ((⟨#[115, 99, 97, 110]⟩ : ByteArray) = ⟨#[111, 112]⟩) := by decide +kernel
  simp only [parseW, if_neg hne]
  rw [hk]
  simp only []
  rw [hn]
  rfl
theorem seek_line : lineO ⟨13, 12, 0, 0, 0, 0, 0⟩ = [115, 101, 101, 107, 32, 49, 50] := by
  have hd : Lib.decDigits 12 = [49, 50] := by rw [Lib.decDigits_two (by omega) (by omega)]; rfl
  rw [lineO, if_neg (by decide)]
  show jn [115, 101, 101, 107] [12] = _
  simp [jn, hd]
set_option maxRecDepth 20000 in
set_option maxHeartbeats 4000000 in
theorem known_any (w : World) (H : FmtAt w) (HP : PuAt w) (HS : SpAt w) : Calls Tryd.prog 6 #[] w fun e w' => e = .returned (.bool true) ∧ Nw w w' := by
  have hp := parseop_any scan39 w H HP HS (by decide +kernel) (by rw [scan_words]; decide +kernel) (by rw [scan_words]; decide)
  rw [scan_parse] at hp
  have ho := Lib.hid (fun W (h : FmtAt W) => op_any ⟨13, 12, 0, 0, 0, 0, 0⟩ W h ⟨by decide, by decide, by decide, by decide, by decide, by decide, by decide⟩)
  rw [seek_line] at ho
  have HF := Lib.hid H
  have HPo := Lib.hid hp
  clear H HP HS hp
  go_enter Tryd.func6, Tryd.ntmps6
  go_wp2_with fail
  refine HPo.out.mono ?_
  rintro e w' ⟨rfl, dW, rfl⟩
  go_wp2_with fail
  refine (ho.out _ (HF.out.nw ((by repeat (first | exact Xt.Nw.refl _ | refine Xt.Nw.drew ?_ | refine Xt.Nw.drewN ?_ _ | refine Xt.Nw.alloc ?_ _ | refine Xt.Nw.joined ?_ | refine Xt.Nw.drewd ?_ | refine Xt.Nw.drewdN ?_ | refine Xt.Nw.ext ?_ | refine Xt.Nw.ext_some ?_ (by assumption) | refine Xt.Nw.setCell ?_ (by simp [go_sem] <;> omega) _))))).mono ?_
  rintro e w' ⟨rfl, dX, rfl⟩
  go_wp2
  go_ret
  exact ⟨rfl, (by repeat (first | exact Xt.Nw.refl _ | refine Xt.Nw.drew ?_ | refine Xt.Nw.drewN ?_ _ | refine Xt.Nw.alloc ?_ _ | refine Xt.Nw.joined ?_ | refine Xt.Nw.drewd ?_ | refine Xt.Nw.drewdN ?_ | refine Xt.Nw.ext ?_ | refine Xt.Nw.ext_some ?_ (by assumption) | refine Xt.Nw.setCell ?_ (by simp [go_sem] <;> omega) _))⟩
end Go.Proofs.YtnldlkkmjabenaaDoor
