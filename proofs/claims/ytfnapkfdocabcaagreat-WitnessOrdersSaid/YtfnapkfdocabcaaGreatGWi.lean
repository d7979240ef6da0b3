import Derived.Test.YtfnapkfdocabcaaGreatGWg
import Derived.Deep.MidRow
import Derived.Deep.WholeRow
import Derived.Test.YtfnapkfdocabcaaGreatGNc
import Derived.Test.YtfnapkfdocabcaaGreatGY
set_option linter.unusedVariables false
set_option linter.unusedSimpArgs false
set_option linter.unnecessarySimpa false
namespace Go.Proofs.YtfnapkfdocabcaaGreat
open Go.RowKit Go.Xt
/-! The reference's New at any configuration. -/
theorem sizeConf : (Tryz.prog.info? 27).map (·.size) = some 16 := by kernel_rfl
/-- A configuration lies at a block: for the walk. -/
class ConfAt (w : World) (b : Nat) (c : outParam Cf) : Prop where
  at_ : ∀ i v, (ccells c)[i]? = some v → w.cell? ⟨b, i, none⟩ = some v
  lt : b < w.heap.size
theorem ConfAt.nw {w w' : World} {b : Nat} {c : Cf} (h : ConfAt w b c) (hn : Nw w w') : ConfAt w' b c := ⟨fun i v hv => cell_nw (h.at_ i v hv) hn, Nat.lt_of_lt_of_le h.lt hn.grown.size⟩
instance {w d : World} {b : Nat} {c : Cf} [h : ConfAt w b c] : ConfAt (w.ext none d) b c := h.nw ⟨d, rfl⟩
instance {w : World} {b : Nat} {c : Cf} {x : Obj} [h : ConfAt w b c] : ConfAt (w.alloc x) b c := h.nw ((Nw.refl _).alloc _)
instance {w : World} {b : Nat} {c : Cf} [h : ConfAt w b c] : ConfAt w.drew b c := ⟨h.at_, h.lt⟩
instance {w : World} {b n : Nat} {c : Cf} [h : ConfAt w b c] : ConfAt (w.drewN n) b c := ⟨h.at_, h.lt⟩
instance {w d : World} {b : Nat} {c : Cf} [h : ConfAt w b c] : ConfAt (w.reg d) b c := h.nw ⟨d, rfl⟩
/-- A load of a whole configuration, kept shut in the walk. -/
def loadConf (p : Value) : Sem Value := Instr.loadAt 27 p
@[go_sem ↓] theorem loadConf_in (p : Value) : Instr.loadAt 27 p = loadConf p := rfl
@[go_sem] theorem run_loadConf {w : World} {b : Nat} {c : Cf} [h : ConfAt w b c] : (loadConf (.pointer (some ⟨b, 0, none⟩))).run Tryz.prog w = .ok (.agg #[.int .i64 c.thr, .int .i64 c.sl, .int .u8 c.eng, .int .i64 c.bk, .int .u8 c.dk, .int .i64 c.dn, .slice c.cA c.cn c.cc, .int .i64 c.t1, .int .i64 c.t2, .int .i64 c.t3, .int .i64 c.t4, .int .i64 c.t5, .int .i64 c.t6, .int .i64 c.lk, .int .i64 c.tr, .int .i64 c.ba]) w :=
  run_loadAt_mid w b 0 27 (ccells c) _ (fun j v hv => by rw [Nat.zero_add]; exact h.at_ j v hv) Tryz.underlying27 rfl sizeConf
end Go.Proofs.YtfnapkfdocabcaaGreat
namespace Go.Proofs.YtfnapkfdocabcaaGreat
open Go.RowKit Go.Xt
/-! Configurations: small words. -/
theorem chk_two (c : Cf) (cuts : List Nat) : chkC c cuts = 0 ∨ chkC c cuts = 2 := by unfold chkC; split <;> simp
theorem cf_thr {c : Cf} {cuts : List Nat} (h : chkC c cuts = 0) : 1 ≤ c.thr ∧ c.thr ≤ 64 := by
  have hb : cfgB c cuts = true := by
    cases hb : cfgB c cuts with
    | true => rfl
    | false => unfold chkC at h; rw [if_neg (by simp [hb])] at h; cases h
  exact (cfgB_iff.1 hb).2.1
theorem check_anyH (A : Option Addr) (n c : Nat) (l : List Cl) (w : World) (hn : n ≤ 1000) (hc : n ≤ c) (hcm : c ≤ 9223372036854775807) (hl : Cs w A n l) (hw : ∀ y ∈ l, WfC y) :
    Calls Tryz.prog 43 #[.slice A n c] w fun e w' => e = .returned (chkV l) ∧ Nw w w' := hcheck_any A n c l w hn hc hcm hl hw
end Go.Proofs.YtfnapkfdocabcaaGreat

