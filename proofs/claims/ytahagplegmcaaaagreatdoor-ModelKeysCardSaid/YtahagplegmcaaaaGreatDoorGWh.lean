import Derived.Test.YtahagplegmcaaaaGreatDoorGWg
import Derived.Test.YtahagplegmcaaaaGreatDoorGQj
import Derived.Deep.MidRow
import Derived.Deep.WholeRow
set_option linter.unusedVariables false
set_option linter.unusedSimpArgs false
set_option linter.unnecessarySimpa false
namespace Go.Proofs.YtahagplegmcaaaaGreatDoor
open Go.RowKit Go.Xt
/-! New at any configuration: the program's and the reference's. -/
theorem flat_mod {cs : List Value} {k : Nat} (hk : cs.length = k) : ∀ (n i : Nat), i < n * k → ((List.replicate n cs).flatten)[i]? = cs[i % k]?
  | 0, i, h => by omega
  | n + 1, i, h => by
    rw [List.replicate_succ, List.flatten_cons]
    by_cases hi : i < k
    · rw [List.getElem?_append_left (by omega), Nat.mod_eq_of_lt hi]
    · rw [List.getElem?_append_right (by omega), hk, flat_mod hk n (i - k) (by rw [Nat.add_mul] at h; omega), ← Nat.mod_eq_sub_mod (by omega)]
theorem flat_rep_len (cs : List Value) (n : Nat) : ((List.replicate n cs).flatten).length = n * cs.length := by
  induction n with
  | zero => simp
  | succ n ih => rw [List.replicate_succ, List.flatten_cons, List.length_append, ih, Nat.add_mul]; omega
theorem made_flat {cs : List Value} {k : Nat} (hk : cs.length = k) (h0 : 0 < k) (n : Nat) : (madeCells cs.toArray (n * k)).toList = (List.replicate n cs).flatten := by
  apply List.ext_getElem?
  intro i
  by_cases hi : i < n * k
  · rw [flat_mod hk n i hi]
    have hm : i % k < k := Nat.mod_lt _ h0
    simp [madeCells, hi, hk, hm]
  · rw [List.getElem?_eq_none (by simp [size_madeCells]; omega), List.getElem?_eq_none (by rw [flat_rep_len, hk]; omega)]
theorem tcells_rep (n : Nat) : (List.replicate n [Value.bool false, .bool false, .int .u64 0, .int .u64 0, .bool false]).flatten = tcells (List.replicate n Th0) := by
  induction n with
  | zero => rfl
  | succ n ih => rw [List.replicate_succ, List.flatten_cons, ih, List.replicate_succ]; rfl
theorem rtcells_rep (n : Nat) : (List.replicate n [Value.bool false, .bool false, .bool false, .int .u64 0, .int .u64 0]).flatten = rtcells (List.replicate n Th0) := by
  induction n with
  | zero => rfl
  | succ n ih => rw [List.replicate_succ, List.flatten_cons, ih, List.replicate_succ]; rfl
theorem tmade (n : Nat) : (madeCells (Value.agg #[.bool false, .bool false, .int .u64 0, .int .u64 0, .bool false]).cells (n * 5)).toList = tcells (List.replicate n Th0) := by
  rw [← tcells_rep, ← made_flat (k := 5) rfl (by decide)]; rfl
theorem rtmade (n : Nat) : (madeCells (Value.agg #[.bool false, .bool false, .bool false, .int .u64 0, .int .u64 0]).cells (n * 5)).toList = rtcells (List.replicate n Th0) := by
  rw [← rtcells_rep, ← made_flat (k := 5) rfl (by decide)]; rfl
theorem seatInfo : (Tryz.prog.info? 73).map (fun i => (i.zero, i.size, i.bytes)) = some (some (.agg #[.bool false, .bool false, .bool false, .int .u64 0, .int .u64 0]), 5, 24) := by kernel_rfl
def cellsOf (c : Cf) (t : TypeId) : Obj := .cells #[.int .i64 c.thr, .int .i64 c.sl, .int .u8 c.eng, .int .i64 c.bk, .int .u8 c.dk, .int .i64 c.dn, .slice c.cA c.cn c.cc, .int .i64 c.t1, .int .i64 c.t2, .int .i64 c.t3, .int .i64 c.t4, .int .i64 c.t5, .int .i64 c.t6, .int .i64 c.lk, .int .i64 c.tr, .int .i64 c.ba] t
set_option maxRecDepth 20000 in
set_option maxHeartbeats 8000000 in
theorem new_no (c : Cf) (cuts : List Nat) (w : World) (h : Rd w 1 c.cA cuts.length (nums cuts)) (hcn : c.cn = cuts.length) (hcr : 0 ≤ c.eng ∧ c.eng < 256) (hno : chkC c cuts = 2) :
    Calls Tryz.prog 6 #[confV c] w fun e w' => e = .returned (.tuple #[.pointer none, .int .i64 2]) ∧ Nw w w' := by
  have HL := Lib.hid (fun W (hw : Nw w W) => layout_all c cuts W (h.nw hw) hcn hcr)
  rw [hno] at HL
  clear h hcn hcr hno
  unfold confV at HL ⊢
  go_enter Tryz.func6, Tryz.ntmps6
  go_wp2_with fail
  refine (HL.out _ ((by repeat (first | exact Xt.Nw.refl _ | refine Xt.Nw.drew ?_ | refine Xt.Nw.drewN ?_ _ | refine Xt.Nw.alloc ?_ _ | refine Xt.Nw.joined ?_ | refine Xt.Nw.drewd ?_ | refine Xt.Nw.drewdN ?_ | refine Xt.Nw.ext ?_ | refine Xt.Nw.ext_some ?_ (by assumption) | refine Xt.Nw.setCell ?_ (by simp [go_sem] <;> omega) _)))).mono ?_
  rintro e w' ⟨rfl, dW, rfl⟩
  go_wp2
  go_ret2
  exact ⟨rfl, (by repeat (first | exact Xt.Nw.refl _ | refine Xt.Nw.drew ?_ | refine Xt.Nw.drewN ?_ _ | refine Xt.Nw.alloc ?_ _ | refine Xt.Nw.joined ?_ | refine Xt.Nw.drewd ?_ | refine Xt.Nw.drewdN ?_ | refine Xt.Nw.ext ?_ | refine Xt.Nw.ext_some ?_ (by assumption) | refine Xt.Nw.setCell ?_ (by simp [go_sem] <;> omega) _))⟩
set_option maxRecDepth 20000 in
set_option maxHeartbeats 8000000 in
theorem rnew_no (c : Cf) (cuts : List Nat) (w : World) (h : Rd w 1 c.cA cuts.length (nums cuts)) (hcn : c.cn = cuts.length) (hcr : 0 ≤ c.eng ∧ c.eng < 256) (hno : chkC c cuts = 2) :
    Calls Tryz.prog 7 #[confV c] w fun e w' => e = .returned (.tuple #[.pointer none, .int .i64 2]) ∧ Nw w w' := by
  have HL := Lib.hid (fun W (hw : Nw w W) => rlayout_all c cuts W (h.nw hw) hcn hcr)
  rw [hno] at HL
  clear h hcn hcr hno
  unfold confV at HL ⊢
  go_enter Tryz.func7, Tryz.ntmps7
  go_wp2_with fail
  refine (HL.out _ ((by repeat (first | exact Xt.Nw.refl _ | refine Xt.Nw.drew ?_ | refine Xt.Nw.drewN ?_ _ | refine Xt.Nw.alloc ?_ _ | refine Xt.Nw.joined ?_ | refine Xt.Nw.drewd ?_ | refine Xt.Nw.drewdN ?_ | refine Xt.Nw.ext ?_ | refine Xt.Nw.ext_some ?_ (by assumption) | refine Xt.Nw.setCell ?_ (by simp [go_sem] <;> omega) _)))).mono ?_
  rintro e w' ⟨rfl, dW, rfl⟩
  go_wp2
  go_ret2
  exact ⟨rfl, (by repeat (first | exact Xt.Nw.refl _ | refine Xt.Nw.drew ?_ | refine Xt.Nw.drewN ?_ _ | refine Xt.Nw.alloc ?_ _ | refine Xt.Nw.joined ?_ | refine Xt.Nw.drewd ?_ | refine Xt.Nw.drewdN ?_ | refine Xt.Nw.ext ?_ | refine Xt.Nw.ext_some ?_ (by assumption) | refine Xt.Nw.setCell ?_ (by simp [go_sem] <;> omega) _))⟩
/-- What New leaves. -/
def NewP (w : World) (sl : Int) (n : Nat) (e : Ending) (w' : World) : Prop := ∃ p : Pl, e = .returned (.tuple #[.pointer (some ⟨p.gm, 0, none⟩), .int .i64 0]) ∧ MAt w' p ⟨sl, [], List.replicate n Th0⟩ ∧ (∀ g ∈ p.foot, w.heap.size ≤ g) ∧ Nw w w'
def RNewP (w : World) (c : Cf) (n : Nat) (e : Ending) (w' : World) : Prop := ∃ p : Pl, e = .returned (.tuple #[.pointer (some ⟨p.gm, 0, none⟩), .int .i64 0]) ∧ RAt w' p c ⟨c.sl, [], List.replicate n Th0⟩ ∧ (∀ g ∈ p.foot, w.heap.size ≤ g) ∧ Nw w w'
set_option maxRecDepth 20000 in
set_option maxHeartbeats 8000000 in
theorem new_yes (c : Cf) (cuts : List Nat) (n : Nat) (w : World) (h : Rd w 1 c.cA cuts.length (nums cuts)) (hcn : c.cn = cuts.length) (hcr : 0 ≤ c.eng ∧ c.eng < 256) (hyes : chkC c cuts = 0) (hthr : c.thr = n) (hn : 1 ≤ n ∧ n ≤ 64) :
    Calls Tryz.prog 6 #[confV c] w (NewP w c.sl n) := by
  have HL := Lib.hid (fun W (hw : Nw w W) => layout_all c cuts W (h.nw hw) hcn hcr)
  rw [hyes] at HL
  have HNn := Lib.hid hn
  obtain ⟨thr, s, eng, bk, dk, dn, A, cn, cc, t1, t2, t3, t4, t5, t6, lk, tr, ba⟩ := c
  simp only at hthr
  subst hthr
  unfold confV at HL ⊢
  simp only at HL ⊢
  clear h hcn hcr hyes
  obtain ⟨cs, hcs⟩ : ∃ cs : Array Value, cs = #[.int .i64 (n : Int), .int .i64 s, .int .u8 eng, .int .i64 bk, .int .u8 dk, .int .i64 dn, .slice A cn cc, .int .i64 t1, .int .i64 t2, .int .i64 t3, .int .i64 t4, .int .i64 t5, .int .i64 t6, .int .i64 lk, .int .i64 tr, .int .i64 ba] := ⟨_, rfl⟩
  go_enter Tryz.func6, Tryz.ntmps6
  go_wp2_with fail
  refine (HL.out _ ((by repeat (first | exact Xt.Nw.refl _ | refine Xt.Nw.drew ?_ | refine Xt.Nw.drewN ?_ _ | refine Xt.Nw.alloc ?_ _ | refine Xt.Nw.joined ?_ | refine Xt.Nw.drewd ?_ | refine Xt.Nw.drewdN ?_ | refine Xt.Nw.ext ?_ | refine Xt.Nw.ext_some ?_ (by assumption) | refine Xt.Nw.setCell ?_ (by simp [go_sem] <;> omega) _)))).mono ?_
  rintro e w' ⟨rfl, dW, rfl⟩
  go_wp2_with fail
  refine (omapnew_any _).mono ?_
  rintro e w' ⟨rfl, rfl⟩
  go_upto_region 7 with (fail)
  simp only [← hcs]
  obtain ⟨gp, hgp⟩ : ∃ g, g = ((w.alloc (.cells cs 27)).ext none dW).heap.size := ⟨_, rfl⟩
  obtain ⟨W2, hW2⟩ : ∃ W2, W2 = ((w.alloc (.cells cs 27)).ext none dW).alloc (.cells #[.slice none 0 0] 114) := ⟨_, rfl⟩
  rw [← hgp, ← hW2]
  have hn2 : Nw w W2 := by rw [hW2]; exact (by repeat (first | exact Xt.Nw.refl _ | refine Xt.Nw.drew ?_ | refine Xt.Nw.drewN ?_ _ | refine Xt.Nw.alloc ?_ _ | refine Xt.Nw.joined ?_ | refine Xt.Nw.drewd ?_ | refine Xt.Nw.drewdN ?_ | refine Xt.Nw.ext ?_ | refine Xt.Nw.ext_some ?_ (by assumption) | refine Xt.Nw.setCell ?_ (by simp [go_sem] <;> omega) _))
  have c0 : W2.cell? ⟨w.heap.size, 0, none⟩ = some (.int .i64 n) := by rw [hW2, hcs]; simp [go_sem]
  have c1 : W2.cell? ⟨w.heap.size, 1, none⟩ = some (.int .i64 s) := by rw [hW2, hcs]; simp [go_sem]
  have cp : W2.cell? ⟨gp, 0, none⟩ = some (.slice none 0 0) := by rw [hW2, hgp]; simp [go_sem]
  have cz : W2.frozen? ⟨gp, 0, none⟩ = false := by rw [hW2, hgp]; simp [go_sem]
  have hb1 : w.heap.size < gp := by
    have h := le_size (w.alloc (.cells cs 27)) none dW
    rw [← hgp] at h
    simp at h; omega
  have hb2 : W2.heap.size = gp + 1 := by rw [hW2, hgp]; simp
  have HN2 := Lib.hid hn2
  have HCP := Lib.hid cp
  have HCZ := Lib.hid cz
  have HB1 := Lib.hid hb1
  have HB2 := Lib.hid hb2
  obtain ⟨i, hi1, hz0, hz1, hz2⟩ := info_parts thInfo
  obtain ⟨W3, hmk, hown, hgr⟩ := run_make_full W2.drew W2.heap.size 58 101 i (.agg #[.bool false, .bool false, .int .u64 0, .int .u64 0, .bool false]) 5 Tryz.underlying58 hi1 hz0 hz1 .i64 .i64 n (by rw [hz2]; omega) (by unfold maxLen; omega) (Nat.le_refl _)
  rw [tmade n] at hown
  have hd0 : W2.drew.heap.size = W2.heap.size := rfl
  rw [hd0] at hmk hown
  have hn3 : Nw W2 W3 := Nw.trans (Nw.drew (Nw.refl _)) (.of hgr)
  have e0 : W3.cell? ⟨w.heap.size, 0, none⟩ = some (.int .i64 n) := cell_nw c0 hn3
  have e1 : W3.cell? ⟨w.heap.size, 1, none⟩ = some (.int .i64 s) := cell_nw c1 hn3
  obtain ⟨gt, hgt⟩ : ∃ g, g = W2.heap.size := ⟨_, rfl⟩
  rw [← hgt] at hmk hown
  have HOW := Lib.hid hown
  have HN3 := Lib.hid hn3
  have HGT := Lib.hid hgt
  clear hW2 hgp hn2 cp cz hb1 hb2 hi1 hz0 hz1 hz2 hgr hown hn3 hgt hd0 hn hcs
  go_region
  go_wp2
  have hs2 := HN2.out.grown.size
  have hs3 := HN3.out.grown.size
  have hgt2 : gt < W3.heap.size := by
    rcases own_forms HOW.out with ⟨_, h0⟩ | ⟨g, cap, hv, _, hin, _, _⟩
    · have := HNn.out; omega
    · injection hv with hv; injection hv with hv; injection hv with hv; rw [hv]; exact hin.lt
  have hA : Nw W3 (W3.alloc (.cells #[.int .i64 s, .pointer (some ⟨gp, 0, none⟩), .slice (some ⟨gt, 0, none⟩) n n] 60)) := (Nw.refl _).alloc _
  have hz : (W3.alloc (.cells #[.int .i64 s, .pointer (some ⟨gp, 0, none⟩), .slice (some ⟨gt, 0, none⟩) n n] 60)).heap.size = W3.heap.size + 1 := by simp
  have hgp2 : gp < W2.heap.size := by have := HB2.out; omega
  have h1 := HB1.out
  have h2 := HB2.out
  have h3 := HGT.out
  refine bodyPost_ret (results_tmp2 rfl _ _ _) rfl ⟨⟨W3.heap.size, gt, gp, .slice none 0 0⟩, rfl, ⟨by simp [go_sem], by simp [go_sem], ⟨n, by simp [go_sem]⟩, fun o => by simp [go_sem], ?_, ⟨cell_nw HCP.out (HN3.out.trans hA), World.ownsRow_nil _ _ _ _, by simp [Value.ownBlock], (frozen_nw hgp2 (HN3.out.trans hA)).trans HCZ.out, List.Pairwise.nil⟩, by show W3.heap.size ≠ gt; omega, by show W3.heap.size ≠ gp; omega, by show gt ≠ gp; omega, by simp [Value.ownBlock], by simp [Value.ownBlock]⟩, ?_, (HN2.out.trans HN3.out).trans hA⟩
  · refine ⟨n, ?_⟩
    rw [List.length_replicate]
    exact own_le (own_nw HOW.out hA) (Nat.zero_le _)
  · intro g hg
    rcases Pl.mem.1 hg with h9 | h9 | h9 | h9
    · have h9 : g = W3.heap.size := h9; omega
    · have h9 : g = gt := h9; omega
    · have h9 : g = gp := h9; omega
    · cases h9
end Go.Proofs.YtahagplegmcaaaaGreatDoor
namespace Go.Proofs.YtahagplegmcaaaaGreatDoor
open Go.RowKit Go.Xt
/-! The reference's New at any configuration. -/
theorem sizeConf : (Tryz.prog.info? 27).map (·.size) = some 16 := by kernel_rfl
/-- A configuration lies at a block: for the walk. -/
class ConfAt (w : World) (b : Nat) (c : outParam Cf) : Prop where
  at_ : ∀ i v, (ccells c)[i]? = some v → w.cell? ⟨b, i, none⟩ = some v
  lt : b < w.heap.size
theorem ConfAt.nw {w w' : World} {b : Nat} {c : Cf} (h : ConfAt w b c) (hn : Nw w w') : ConfAt w' b c := ⟨fun i v hv => cell_nw (h.at_ i v hv) hn, Nat.lt_of_lt_of_le h.lt hn.grown.size⟩
instance {w d : World} {b : Nat} {c : Cf} [h : ConfAt w b c] : ConfAt (w.ext none d) b c := h.nw ⟨d, rfl⟩
instance {w : World} {b : Nat} {c : Cf} {x : Obj} [h : ConfAt w b c] : ConfAt (w.alloc x) b c := h.nw ((Nw.refl _).alloc _)
instance {w : World} {b : Nat} {c : Cf} [h : ConfAt w b c] : ConfAt w.drew b c := ⟨h.at_, h.lt⟩
instance {w : World} {b n : Nat} {c : Cf} [h : ConfAt w b c] : ConfAt (w.drewN n) b c := ⟨h.at_, h.lt⟩
instance {w d : World} {b : Nat} {c : Cf} [h : ConfAt w b c] : ConfAt (w.reg d) b c := h.nw ⟨d, rfl⟩
/-- A load of a whole configuration, kept shut in the walk. -/
def loadConf (p : Value) : Sem Value := Instr.loadAt 27 p
@[go_sem ↓] theorem loadConf_in (p : Value) : Instr.loadAt 27 p = loadConf p := rfl
theorem ccells_len (c : Cf) : (ccells c).length = 16 := rfl
@[go_sem] theorem run_loadConf {w : World} {b : Nat} {c : Cf} [h : ConfAt w b c] : (loadConf (.pointer (some ⟨b, 0, none⟩))).run Tryz.prog w = .ok (.agg #[.int .i64 c.thr, .int .i64 c.sl, .int .u8 c.eng, .int .i64 c.bk, .int .u8 c.dk, .int .i64 c.dn, .slice c.cA c.cn c.cc, .int .i64 c.t1, .int .i64 c.t2, .int .i64 c.t3, .int .i64 c.t4, .int .i64 c.t5, .int .i64 c.t6, .int .i64 c.lk, .int .i64 c.tr, .int .i64 c.ba]) w :=
  run_loadAt_mid w b 0 27 (ccells c) _ (fun j v hv => by rw [Nat.zero_add]; exact h.at_ j v hv) Tryz.underlying27 rfl sizeConf
theorem om_made (w : World) : OM (w.alloc (.cells #[.slice none 0 0] 64)) w.heap.size (.slice none 0 0) [] :=
  ⟨by simp [go_sem], World.ownsRow_nil _ _ _ _, by simp [Value.ownBlock], by simp [go_sem], List.Pairwise.nil⟩
/-- The model that New makes last. -/
theorem rmade_at {Z : World} {c : Cf} {n gp gt : Nat} (hom : OM Z gp (.slice none 0 0) []) (hth : RThR Z gt (List.replicate n Th0)) (ne : gt ≠ gp) :
    RAt (Z.alloc (.cells (ccells c ++ [Value.pointer (some ⟨gp, 0, none⟩), Value.slice (some ⟨gt, 0, none⟩) n n]).toArray 67)) ⟨Z.heap.size, gt, gp, .slice none 0 0⟩ c ⟨c.sl, [], List.replicate n Th0⟩ := by
  have hA : Nw Z (Z.alloc (.cells (ccells c ++ [Value.pointer (some ⟨gp, 0, none⟩), Value.slice (some ⟨gt, 0, none⟩) n n]).toArray 67)) := (Nw.refl _).alloc _
  have h1 := hom.lt
  have h2 := hth.inn
  refine ⟨fun i v hv => ?_, rfl, ?_, ⟨n, ?_⟩, fun o => ?_, hth.nw hA, hom.nw hA, ?_, ?_, ne, by simp [Value.ownBlock], by simp [Value.ownBlock]⟩
  · have hi := (List.getElem?_eq_some_iff.1 hv).1
    show (Z.alloc _).cell? ⟨Z.heap.size, i, none⟩ = some v
    rw [World.cell?_alloc_new, List.getElem?_toArray, List.getElem?_append_left hi]; exact hv
  · show (Z.alloc _).cell? ⟨Z.heap.size, 16, none⟩ = _
    rw [World.cell?_alloc_new, List.getElem?_toArray]; rfl
  · show (Z.alloc _).cell? ⟨Z.heap.size, 17, none⟩ = some (.slice _ (List.replicate n Th0).length n)
    rw [World.cell?_alloc_new, List.getElem?_toArray, List.length_replicate]; rfl
  · show (Z.alloc _).frozen? ⟨Z.heap.size, o, none⟩ = false
    simp [go_sem]
  · show Z.heap.size ≠ gt; omega
  · show Z.heap.size ≠ gp; omega
set_option maxRecDepth 20000 in
set_option maxHeartbeats 8000000 in
theorem rnew_yes (c : Cf) (cuts : List Nat) (n : Nat) (w : World) (h : Rd w 1 c.cA cuts.length (nums cuts)) (hcn : c.cn = cuts.length) (hcr : 0 ≤ c.eng ∧ c.eng < 256) (hyes : chkC c cuts = 0) (hthr : c.thr = n) (hn : 1 ≤ n ∧ n ≤ 64) :
    Calls Tryz.prog 7 #[confV c] w (RNewP w c n) := by
  have HL := Lib.hid (fun W (hw : Nw w W) => rlayout_all c cuts W (h.nw hw) hcn hcr)
  rw [hyes] at HL
  have HNn := Lib.hid hn
  have HTHR := Lib.hid hthr
  obtain ⟨cs, hcs⟩ : ∃ cs : List Value, cs = ccells c := ⟨_, rfl⟩
  have hcc := Lib.hid hcs
  unfold confV at HL ⊢
  clear h hcn hcr hyes
  obtain ⟨W1, hW1⟩ : ∃ W1, W1 = w.alloc (.cells (ccells c).toArray 27) := ⟨_, rfl⟩
  have hN1 : Nw w W1 := by rw [hW1]; exact (by repeat (first | exact Xt.Nw.refl _ | refine Xt.Nw.drew ?_ | refine Xt.Nw.drewN ?_ _ | refine Xt.Nw.alloc ?_ _ | refine Xt.Nw.joined ?_ | refine Xt.Nw.drewd ?_ | refine Xt.Nw.drewdN ?_ | refine Xt.Nw.ext ?_ | refine Xt.Nw.ext_some ?_ (by assumption) | refine Xt.Nw.setCell ?_ (by simp [go_sem] <;> omega) _))
  have hc1 : ∀ i v, (ccells c)[i]? = some v → W1.cell? ⟨w.heap.size, i, none⟩ = some v := fun i v hv => by rw [hW1, World.cell?_alloc_new]; simpa using hv
  have HC1 := Lib.hid hc1
  have HN1 := Lib.hid hN1
  have hW1b : W1 = w.alloc (.cells #[.int .i64 c.thr, .int .i64 c.sl, .int .u8 c.eng, .int .i64 c.bk, .int .u8 c.dk, .int .i64 c.dn, .slice c.cA c.cn c.cc, .int .i64 c.t1, .int .i64 c.t2, .int .i64 c.t3, .int .i64 c.t4, .int .i64 c.t5, .int .i64 c.t6, .int .i64 c.lk, .int .i64 c.tr, .int .i64 c.ba] 27) := hW1
  have HW1 := Lib.hid hW1b
  have q0 := hc1 0 _ rfl
  haveI : In w.heap.size W1 := ⟨World.block_lt_of_cell? _ _ q0⟩
  haveI hca1 : ConfAt W1 w.heap.size c := ⟨hc1, World.block_lt_of_cell? _ _ q0⟩
  clear hW1 hW1b hN1 hc1 hcs hthr
  go_enter Tryz.func7, Tryz.ntmps7
  go_upto_region 1 with (fail)
  rw [← HW1.out]
  go_wp2_with fail
  refine (HL.out _ HN1.out).mono ?_
  rintro e W2 ⟨rfl, hn2⟩
  have p0 := cell_nw q0 hn2
  replace q0 := cell_nw q0 hn2
  rw [HTHR.out] at q0
  clear p0
  haveI : In w.heap.size W2 := ⟨World.block_lt_of_cell? _ _ q0⟩
  haveI hca2 : ConfAt W2 w.heap.size c := hca1.nw hn2
  have HN2 := Lib.hid (HN1.out.trans hn2)
  have HLT := Lib.hid (World.block_lt_of_cell? _ _ q0)
  clear hn2
  go_upto_region 4 with (fail)
  obtain ⟨i, hi1, hz0, hz1, hz2⟩ := info_parts seatInfo
  obtain ⟨WA, hmkA, hownA, hgrA⟩ := run_make_full (W2.alloc (.cells #[.slice none 0 0] 64)).drew (W2.heap.size + 1) 65 73 i (.agg #[.bool false, .bool false, .bool false, .int .u64 0, .int .u64 0]) 5 Tryz.underlying65 hi1 hz0 hz1 .i64 .i64 n (by rw [hz2]; omega) (by unfold maxLen; omega) (by simp)
  obtain ⟨WB, hmkB, hownB, hgrB⟩ := run_make_full W2.drew W2.heap.size 65 73 i (.agg #[.bool false, .bool false, .bool false, .int .u64 0, .int .u64 0]) 5 Tryz.underlying65 hi1 hz0 hz1 .i64 .i64 n (by rw [hz2]; omega) (by unfold maxLen; omega) (Nat.le_refl _)
  rw [rtmade n] at hownA hownB
  have hdA : (W2.alloc (.cells #[.slice none 0 0] 64)).drew.heap.size = W2.heap.size + 1 := by simp
  have hdB : W2.drew.heap.size = W2.heap.size := rfl
  rw [hdA] at hownA hmkA
  rw [hdB] at hownB hmkB
  clear hdA hdB
  have hnA : Nw W2 WA := Nw.trans (Nw.drew (Nw.alloc (Nw.refl _) _)) (.of hgrA)
  have hnB : Nw W2 WB := Nw.trans (Nw.drew (Nw.refl _)) (.of hgrB)
  have qA0 := cell_nw q0 hnA
  have qB0 := cell_nw q0 hnB
  haveI : In w.heap.size WA := ⟨World.block_lt_of_cell? _ _ qA0⟩
  haveI hcaA : ConfAt WA w.heap.size c := hca2.nw hnA
  haveI hcaB : ConfAt WB w.heap.size c := hca2.nw hnB
  haveI : In w.heap.size WB := ⟨World.block_lt_of_cell? _ _ qB0⟩
  have HNA := Lib.hid hnA
  have HNB := Lib.hid hnB
  have HOA := Lib.hid hownA
  have HOB := Lib.hid hownB
  clear hnA hnB hownA hownB hgrB hi1 hz0 hz1 hz2
  have HGA := Lib.hid (show W2.heap.size + 1 < WA.heap.size by
    rcases own_forms HOA.out with ⟨_, h0⟩ | ⟨g, cap, hv, _, hin, _, _⟩
    · have := HNn.out; omega
    · injection hv with hv; injection hv with hv; injection hv with hv; have h9 := hin.lt; rw [← hv] at h9; simpa using h9)
  have HGB := Lib.hid (show W2.heap.size < WB.heap.size by
    rcases own_forms HOB.out with ⟨_, h0⟩ | ⟨g, cap, hv, _, hin, _, _⟩
    · have := HNn.out; omega
    · injection hv with hv; injection hv with hv; injection hv with hv; have h9 := hin.lt; rw [← hv] at h9; simpa using h9)
  have HGR := Lib.hid (Nw.trans (Nw.drew (Nw.refl _)) (.of hgrA) : Nw (W2.alloc (.cells #[.slice none 0 0] 64)) WA)
  clear hgrA
  go_region
  · go_wp2
    have hA : RAt _ ⟨WA.heap.size, W2.heap.size + 1, W2.heap.size, .slice none 0 0⟩ c _ := rmade_at (n := n) ((om_made W2).nw HGR.out) ⟨n, by rw [List.length_replicate]; exact own_le HOA.out (Nat.zero_le _)⟩ (by omega)
    have s2 := HN2.out.grown.size
    have sA := HNA.out.grown.size
    refine bodyPost_ret (results_tmp2 rfl _ _ _) rfl ⟨⟨WA.heap.size, W2.heap.size + 1, W2.heap.size, .slice none 0 0⟩, rfl, hA, fun g hg => ?_, (HN2.out.trans HNA.out).alloc _⟩
    rcases Pl.mem.1 hg with h9 | h9 | h9 | h9
    · have h9 : g = WA.heap.size := h9; omega
    · have h9 : g = W2.heap.size + 1 := h9; omega
    · have h9 : g = W2.heap.size := h9; omega
    · cases h9
  · go_wp2
    have hnm : Nw WB (WB.alloc (.cells #[.slice none 0 0] 64)) := (Nw.refl _).alloc _
    have hth : RThR WB W2.heap.size (List.replicate n Th0) := ⟨n, by rw [List.length_replicate]; exact own_le HOB.out (Nat.zero_le _)⟩
    have hA : RAt _ ⟨(WB.alloc (.cells #[.slice none 0 0] 64)).heap.size, W2.heap.size, WB.heap.size, .slice none 0 0⟩ c _ := rmade_at (n := n) (om_made WB) (hth.nw hnm) (by have := HGB.out; omega)
    have s2 := HN2.out.grown.size
    have sB := HNB.out.grown.size
    have sz : (WB.alloc (.cells #[.slice none 0 0] 64)).heap.size = WB.heap.size + 1 := by simp
    rw [sz] at hA
    refine bodyPost_ret (results_tmp2 rfl _ _ _) rfl ⟨⟨WB.heap.size + 1, W2.heap.size, WB.heap.size, .slice none 0 0⟩, rfl, hA, fun g hg => ?_, ((HN2.out.trans HNB.out).alloc _).alloc _⟩
    rcases Pl.mem.1 hg with h9 | h9 | h9 | h9
    · have h9 : g = WB.heap.size + 1 := h9; omega
    · have h9 : g = W2.heap.size := h9; omega
    · have h9 : g = WB.heap.size := h9; omega
    · cases h9
end Go.Proofs.YtahagplegmcaaaaGreatDoor
