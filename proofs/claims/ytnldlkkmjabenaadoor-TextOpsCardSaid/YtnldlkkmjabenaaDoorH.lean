import Derived.Test.YtnldlkkmjabenaaDoorG
namespace Go.Proofs.YtnldlkkmjabenaaDoor
open Go.RowKit Go.Xt
/-- An operation. -/
structure Opn where
  (kd ky hi vl od bt dr : Int)
deriving DecidableEq
/-- The field at a place. -/
def sel (x : Opn) : Nat → Int
  | 1 => x.ky | 2 => x.hi | 3 => x.vl | 4 => x.od | 5 => x.bt | 6 => x.dr | _ => 0
abbrev ov (x : Opn) : Value := .agg #[.int .u8 x.kd, .int .u64 x.ky, .int .u64 x.hi, .int .u64 x.vl, .int .u64 x.od, .int .u64 x.bt, .int .u64 x.dr]
/-- The operation with the fields at these places alone. -/
def partO (x : Opn) (l : List Nat) : Opn := ⟨x.kd, if 1 ∈ l then x.ky else 0, if 2 ∈ l then x.hi else 0, if 3 ∈ l then x.vl else 0, if 4 ∈ l then x.od else 0, if 5 ∈ l then x.bt else 0, if 6 ∈ l then x.dr else 0⟩
/-- The operation without the fields that its kind does not use. -/
def usedO (x : Opn) : Opn := partO x (offs x.kd)
theorem offs_rng (k : Int) : ∀ o ∈ offs k, 1 ≤ o ∧ o ≤ 6 := by
  intro o ho
  unfold offs at ho
  (repeat' split at ho) <;> simp at ho <;> omega
theorem offs_nodup (k : Int) : (offs k).Nodup := by
  unfold offs
  (repeat' split) <;> decide
theorem offs_len (k : Int) : (offs k).length ≤ 4 := by
  unfold offs
  (repeat' split) <;> decide
theorem Is_ptr {w : World} {A : Option Addr} {n b : Nat} {l : List Nat} (h : Rd w 1 A n (ptrs b l)) {i : Nat} (hi : i < n) : ∃ b' o' o, A = some ⟨b', o', none⟩ ∧ b' < w.heap.size ∧ l[i]? = some o ∧ w.cell? ⟨b', o' + i, none⟩ = some (.pointer (some ⟨b, o, none⟩)) := by
  obtain ⟨b', o', hA, hb, hc⟩ := h.2 (by omega)
  have hl : l.length = n := by have := h.1; simpa [ptrs] using this
  refine ⟨b', o', l[i]'(by omega), hA, hb, List.getElem?_eq_getElem (by omega), hc i _ ?_⟩
  rw [ptrs, List.getElem?_map, List.getElem?_eq_getElem (by omega)]; rfl
/-- An operation's cells. -/
def AtO (w : World) (b : Nat) (x : Opn) : Prop := b < w.heap.size ∧ w.cell? ⟨b, 0, none⟩ = some (.int .u8 x.kd) ∧ ∀ o, 1 ≤ o → o ≤ 6 → w.cell? ⟨b, o, none⟩ = some (.int .u64 (sel x o))
theorem AtO.nw {w w' : World} {b : Nat} {x : Opn} (h : AtO w b x) (hn : Nw w w') : AtO w' b x := by
  obtain ⟨d, rfl⟩ := hn
  haveI : In b w := ⟨h.1⟩
  exact ⟨Nat.lt_of_lt_of_le h.1 (le_size _ _ _), by rw [cell_ext]; exact h.2.1, fun o h1 h2 => by rw [cell_ext]; exact h.2.2 o h1 h2⟩
theorem sel_cases {P : Nat → Prop} (h : P 1 ∧ P 2 ∧ P 3 ∧ P 4 ∧ P 5 ∧ P 6) : ∀ o, 1 ≤ o → o ≤ 6 → P o := fun o h1 h2 => by
  rcases (by omega : o = 1 ∨ o = 2 ∨ o = 3 ∨ o = 4 ∨ o = 5 ∨ o = 6) with rfl | rfl | rfl | rfl | rfl | rfl
  · exact h.1
  · exact h.2.1
  · exact h.2.2.1
  · exact h.2.2.2.1
  · exact h.2.2.2.2.1
  · exact h.2.2.2.2.2
theorem sel_part (x : Opn) (l : List Nat) : ∀ o, 1 ≤ o → o ≤ 6 → sel (partO x l) o = if o ∈ l then sel x o else 0 := sel_cases ⟨rfl, rfl, rfl, rfl, rfl, rfl⟩
theorem AtO.set {W : World} {b q : Nat} {x : Opn} {l : List Nat} (h : AtO W b (partO x l)) (h1 : 1 ≤ q) (h6 : q ≤ 6) : AtO (W.setCell ⟨b, q, none⟩ (.int .u64 (sel x q))) b (partO x (l ++ [q])) := by
  refine ⟨by simpa using h.1, ?_, fun o o1 o6 => ?_⟩
  · rw [World.cell?_setCell_other (h := by intro e; injection e with e1 e2; omega)]; exact h.2.1
  · by_cases e : o = q
    · subst e
      rw [World.cell?_setCell_same _ _ _ (h.2.2 o o1 o6), sel_part _ _ o o1 o6, if_pos (by simp)]
    · rw [World.cell?_setCell_other (h := by intro e2; injection e2 with e3 e4; exact e e4.symm), h.2.2 o o1 o6, sel_part _ _ o o1 o6, sel_part _ _ o o1 o6]
      simp [e]
theorem frozen_nw {W W' : World} {b o : Nat} (hb : b < W.heap.size) (hn : Nw W W') : W'.frozen? ⟨b, o, none⟩ = W.frozen? ⟨b, o, none⟩ := by
  obtain ⟨d, rfl⟩ := hn
  haveI : In b W := ⟨hb⟩
  exact frozen_ext
theorem set_grown {W W' : World} {g o : Nat} {v : Value} (h : W.grownBy W' (some g)) : W.grownBy (W'.setCell ⟨g, o, none⟩ v) (some g) :=
  ⟨h.os, h.tape, h.output, by simpa using h.size, fun k hk hne => (RowKit.Below.heap_setCell _ _ _ _ (by simp at hne; simp; omega)).trans (h.block k hk hne)⟩
set_option maxRecDepth 20000 in
set_option maxHeartbeats 4000000 in
theorem used_any (x : Opn) (w : World) :
    Calls Tryd.prog 13 #[ov x] w fun e w' => e = .returned (ov (usedO x)) ∧ Nw w w' := by
  obtain ⟨W1, hW1⟩ : ∃ W1, W1 = (((w.alloc (.cells #[.int .u8 x.kd, .int .u64 x.ky, .int .u64 x.hi, .int .u64 x.vl, .int .u64 x.od, .int .u64 x.bt, .int .u64 x.dr] 24)).alloc (.cells #[.int .u8 0, .int .u64 0, .int .u64 0, .int .u64 0, .int .u64 0, .int .u64 0, .int .u64 0] 24)).alloc (.cells #[.int .u8 x.kd, .int .u64 0, .int .u64 0, .int .u64 0, .int .u64 0, .int .u64 0, .int .u64 0] 24)) := ⟨_, rfl⟩
  have hN1 : Nw w W1 := by rw [hW1]; exact (by repeat (first | exact Xt.Nw.refl _ | refine Xt.Nw.drew ?_ | refine Xt.Nw.drewN ?_ _ | refine Xt.Nw.alloc ?_ _ | refine Xt.Nw.joined ?_ | refine Xt.Nw.drewd ?_ | refine Xt.Nw.drewdN ?_ | refine Xt.Nw.ext ?_ | refine Xt.Nw.ext_some ?_ (by assumption) | refine Xt.Nw.setCell ?_ (by simp [go_sem] <;> omega) _))
  have hA1 : AtO W1 w.heap.size x := by
    rw [hW1]; exact ⟨by simp; omega, by simp [go_sem], sel_cases ⟨by simp [go_sem, sel], by simp [go_sem, sel], by simp [go_sem, sel], by simp [go_sem, sel], by simp [go_sem, sel], by simp [go_sem, sel]⟩⟩
  have hB1 : AtO W1 (w.heap.size + 1 + 1) ⟨x.kd, 0, 0, 0, 0, 0, 0⟩ := by
    rw [hW1]; exact ⟨by simp, by simp [go_sem], sel_cases ⟨by simp [go_sem, sel], by simp [go_sem, sel], by simp [go_sem, sel], by simp [go_sem, sel], by simp [go_sem, sel], by simp [go_sem, sel]⟩⟩
  have hC1 : AtO W1 (w.heap.size + 1) ⟨0, 0, 0, 0, 0, 0, 0⟩ := by
    rw [hW1]; exact ⟨by simp, by simp [go_sem], sel_cases ⟨by simp [go_sem, sel], by simp [go_sem, sel], by simp [go_sem, sel], by simp [go_sem, sel], by simp [go_sem, sel], by simp [go_sem, sel]⟩⟩
  have hF1 : ∀ o, W1.frozen? ⟨w.heap.size + 1 + 1, o, none⟩ = false := fun o => by rw [hW1]; simp [go_sem]
  have hG1 : ∀ o, W1.frozen? ⟨w.heap.size + 1, o, none⟩ = false := fun o => by rw [hW1]; simp [go_sem]
  have HW1 := Lib.hid hW1
  have HN1 := Lib.hid hN1
  have HA1 := Lib.hid hA1
  have HB1 := Lib.hid hB1
  have HC1 := Lib.hid hC1
  have HF1 := Lib.hid hF1
  have HG1 := Lib.hid hG1
  have hsz := hB1.1
  clear hW1 hN1 hA1 hB1 hC1 hF1 hG1
  go_enter Tryd.func13, Tryd.ntmps13
  go_wp2_with fail
  rw [← HW1.out]
  haveI : In w.heap.size W1 := ⟨HA1.out.1⟩
  haveI : In (w.heap.size + 1) W1 := ⟨HC1.out.1⟩
  haveI : In (w.heap.size + 1 + 1) W1 := ⟨hsz⟩
  refine (fields_any x.kd w.heap.size W1 HA1.out.1 HA1.out.2.1).mono ?_
  rintro e w' ⟨Af, cf, rfl, ⟨hf, hfb⟩, dW, rfl⟩
  have HFr := Lib.hid hf
  have HFB := Lib.hid hfb
  clear hf hfb
  go_wp2_with fail
  refine (fields_any x.kd (w.heap.size + 1 + 1) _ (HB1.out.nw ((by repeat (first | exact Xt.Nw.refl _ | refine Xt.Nw.drew ?_ | refine Xt.Nw.drewN ?_ _ | refine Xt.Nw.alloc ?_ _ | refine Xt.Nw.joined ?_ | refine Xt.Nw.drewd ?_ | refine Xt.Nw.drewdN ?_ | refine Xt.Nw.ext ?_ | refine Xt.Nw.ext_some ?_ (by assumption) | refine Xt.Nw.setCell ?_ (by simp [go_sem] <;> omega) _)))).1 (HB1.out.nw ((by repeat (first | exact Xt.Nw.refl _ | refine Xt.Nw.drew ?_ | refine Xt.Nw.drewN ?_ _ | refine Xt.Nw.alloc ?_ _ | refine Xt.Nw.joined ?_ | refine Xt.Nw.drewd ?_ | refine Xt.Nw.drewdN ?_ | refine Xt.Nw.ext ?_ | refine Xt.Nw.ext_some ?_ (by assumption) | refine Xt.Nw.setCell ?_ (by simp [go_sem] <;> omega) _)))).2.1).mono ?_
  rintro e W2 ⟨At, ct, rfl, ⟨ht, htb⟩, hn2⟩
  have hN2 : Nw W1 W2 := Nw.trans ((by repeat (first | exact Xt.Nw.refl _ | refine Xt.Nw.drew ?_ | refine Xt.Nw.drewN ?_ _ | refine Xt.Nw.alloc ?_ _ | refine Xt.Nw.joined ?_ | refine Xt.Nw.drewd ?_ | refine Xt.Nw.drewdN ?_ | refine Xt.Nw.ext ?_ | refine Xt.Nw.ext_some ?_ (by assumption) | refine Xt.Nw.setCell ?_ (by simp [go_sem] <;> omega) _))) hn2
  have htb2 : ∀ b' o', At = some ⟨b', o', none⟩ → W1.heap.size ≤ b' := fun b' o' e => Nat.le_trans (le_size _ _ _) (htb b' o' e)
  obtain ⟨l, hl⟩ : ∃ l, offs x.kd = l := ⟨_, rfl⟩
  obtain ⟨n, hn⟩ : ∃ n, l.length = n := ⟨_, rfl⟩
  have hf2 := HFr.out.nw hn2
  have hn4 : n ≤ 4 := by rw [← hn, ← hl]; exact offs_len _
  rw [hl, hn] at hf2 ht ⊢
  have hrng : ∀ o ∈ l, 1 ≤ o ∧ o ≤ 6 := by rw [← hl]; exact offs_rng _
  have HR := Lib.hid hrng
  have HF2 := Lib.hid hf2
  have HT2 := Lib.hid ht
  have HTB := Lib.hid htb2
  have HA2 := Lib.hid (HA1.out.nw hN2)
  have HB2 := Lib.hid (HB1.out.nw hN2)
  have HC2 := Lib.hid (HC1.out.nw hN2)
  have hz3 : ∀ o, W2.frozen? ⟨w.heap.size + 1 + 1, o, none⟩ = false := fun o => (frozen_nw hsz hN2).trans (HF1.out o)
  have hz2 : ∀ o, W2.frozen? ⟨w.heap.size + 1, o, none⟩ = false := fun o => (frozen_nw HC1.out.1 hN2).trans (HG1.out o)
  have HZ3 := Lib.hid hz3
  have HZ2 := Lib.hid hz2
  have HN2 := Lib.hid (HN1.out.trans hN2)
  have HL := Lib.hid hl
  have HN := Lib.hid hn
  have hsz2 : W1.heap.size ≤ W2.heap.size := hN2.grown.size
  clear hN2 hn2 htb htb2 hf2 ht hrng hz3 hz2 HFr hl hn
  obtain ⟨g1, hg1⟩ : ∃ g, g = w.heap.size := ⟨_, rfl⟩
  obtain ⟨g2, hg2⟩ : ∃ g, g = w.heap.size + 1 := ⟨_, rfl⟩
  obtain ⟨g3, hg3⟩ : ∃ g, g = w.heap.size + 1 + 1 := ⟨_, rfl⟩
  rw [← hg3] at HB2 HZ3 HT2 hsz ⊢
  rw [← hg2] at HC2 HZ2 ⊢
  rw [← hg1] at HA2 HF2 ⊢
  have hn13 : g1 ≠ g3 := by omega
  have hn23 : g2 ≠ g3 := by omega
  have hwg : w.heap.size ≤ g2 := by omega
  have hwg3 : w.heap.size ≤ g3 := by omega
  have HNE := Lib.hid (⟨hn13, hn23, hwg, hwg3⟩ : g1 ≠ g3 ∧ g2 ≠ g3 ∧ w.heap.size ≤ g2 ∧ w.heap.size ≤ g3)
  clear hg1 hg2 hg3 hn13 hn23 hwg hwg3
  go_wp2_with fail
  go_loopw [6, 14] (fun _ a wr => ∃ i : Nat, i ≤ n ∧ a = .int .i64 i ∧ Hid (AtO wr g3 (partO x (l.take i))) ∧ Hid (∀ o, wr.frozen? ⟨g3, o, none⟩ = false) ∧ Hid (W2.grownBy wr (some g3))) (fun _ a _ => n - (intOf a).toNat)
  case atStart => exact ⟨0, by omega, rfl, HB2.out, HZ3.out, gref _ _⟩
  case round =>
    obtain ⟨i, hi, rfl, hat, hfz, hgr⟩ := hrel
    by_cases hlt : i < n
    · obtain ⟨bf, of, q, rfl, hbf, hq, hcf⟩ := Is_ptr HF2.out hlt
      obtain ⟨bt, ot, q', rfl, hbt, hq', hct⟩ := Is_ptr HT2.out hlt
      obtain rfl : q = q' := by rw [hq] at hq'; injection hq'
      have hqr := HR.out q (List.mem_of_getElem? hq)
      have hnt : bt ≠ g3 := by have := HTB.out _ _ rfl; omega
      have hnf : bf ≠ g3 := by have := HFB.out _ _ rfl; omega
      have hn1 : g1 ≠ g3 := HNE.out.1
      have f1 : wr.cell? ⟨bf, of + i, none⟩ = some (.pointer (some ⟨g1, q, none⟩)) := (World.cell?_of_block (hgr.out.block bf hbf (by simpa using hnf))).trans hcf
      have f2 : wr.cell? ⟨bt, ot + i, none⟩ = some (.pointer (some ⟨g3, q, none⟩)) := (World.cell?_of_block (hgr.out.block bt hbt (by simpa using hnt))).trans hct
      have f3 : wr.cell? ⟨g1, q, none⟩ = some (.int .u64 (sel x q)) := (World.cell?_of_block (hgr.out.block g1 HA2.out.1 (by simpa using hn1))).trans (HA2.out.2.2 q hqr.1 hqr.2)
      have f4 := hat.out.2.2 q hqr.1 hqr.2
      have f5 := hfz.out q
      have hin : (i : Int) < (n : Int) := by omega
      have HQ := Lib.hid hq
      have HQR := Lib.hid hqr
      clear hcf hct hq hq' hqr
      obtain ⟨sq, hsq⟩ : ∃ sq, sq = sel x q := ⟨_, rfl⟩
      rw [← hsq] at f3
      have HSQ := Lib.hid hsq
      clear hsq
      generalize sel (partO x (List.take i l)) q = sp at f4
      go_upto_region 6 with (fail)
      go_still_tail 11, (by kernel_rfl)
      change wpList _ _ _ _ _ wr.drew
      go_wp2
      refine ⟨⟨i + 1, by omega, by go_num, ?_, ?_, ?_⟩, by first | (simp [intOf]; omega) | omega⟩
      · show AtO _ _ _
        obtain ⟨p1, q1⟩ := List.getElem?_eq_some_iff.1 HQ.out
        rw [List.take_succ_eq_append_getElem p1, q1, HSQ.out]
        exact AtO.set (W := wr.drew) hat.out HQR.out.1 HQR.out.2
      · show ∀ o, _
        intro o
        show (wr.setCell _ _).frozen? _ = false
        rw [World.frozen?_setCell]; exact hfz.out o
      · show World.grownBy _ _ _
        have hs := set_grown (o := q) (v := .int .u64 sq) (⟨hgr.out.os, hgr.out.tape, hgr.out.output, hgr.out.size, hgr.out.block⟩ : W2.grownBy wr (some g3))
        exact ⟨hs.os, hs.tape, hs.output, hs.size, hs.block⟩
    · have hin : ¬ (i : Int) < (n : Int) := by omega
      have hful : AtO wr g3 (usedO x) := by
        have h := hat.out
        rw [List.take_of_length_le (by have := HN.out; omega)] at h
        rw [usedO, HL.out]; exact h
      have hwr : w.grownBy wr none := ⟨hgr.out.os.trans HN2.out.grown.os, hgr.out.tape.trans HN2.out.grown.tape, hgr.out.output.trans HN2.out.grown.output, Nat.le_trans HN2.out.grown.size hgr.out.size, fun k hk _ => (hgr.out.block k (Nat.lt_of_lt_of_le hk HN2.out.grown.size) (by have := HNE.out.2.2.2; simp; omega)).trans (HN2.out.grown.block k hk (by simp))⟩
      have HWR := Lib.hid (Nw.of hwr)
      obtain ⟨y, hy⟩ : ∃ y, usedO x = y := ⟨_, rfl⟩
      rw [hy] at hful
      have HY := Lib.hid hy
      have e2 : wr.heap[g2]? = W2.heap[g2]? := hgr.out.block g2 HC2.out.1 (by have := HNE.out.2.1; simpa using this)
      have r0 : wr.cell? ⟨g3, 0, none⟩ = some (.int .u8 y.kd) := hful.2.1
      have p0 : wr.cell? ⟨g2, 0, none⟩ = some (.int .u8 0) := (World.cell?_of_block e2).trans (HC2.out.2.1)
      have z0 : wr.frozen? ⟨g2, 0, none⟩ = false := (World.frozen?_of_block e2).trans (HZ2.out 0)
      have r1 : wr.cell? ⟨g3, 1, none⟩ = some (.int .u64 y.ky) := hful.2.2 1 (by omega) (by omega)
      have p1 : wr.cell? ⟨g2, 1, none⟩ = some (.int .u64 0) := (World.cell?_of_block e2).trans (HC2.out.2.2 1 (by omega) (by omega))
      have z1 : wr.frozen? ⟨g2, 1, none⟩ = false := (World.frozen?_of_block e2).trans (HZ2.out 1)
      have r2 : wr.cell? ⟨g3, 2, none⟩ = some (.int .u64 y.hi) := hful.2.2 2 (by omega) (by omega)
      have p2 : wr.cell? ⟨g2, 2, none⟩ = some (.int .u64 0) := (World.cell?_of_block e2).trans (HC2.out.2.2 2 (by omega) (by omega))
      have z2 : wr.frozen? ⟨g2, 2, none⟩ = false := (World.frozen?_of_block e2).trans (HZ2.out 2)
      have r3 : wr.cell? ⟨g3, 3, none⟩ = some (.int .u64 y.vl) := hful.2.2 3 (by omega) (by omega)
      have p3 : wr.cell? ⟨g2, 3, none⟩ = some (.int .u64 0) := (World.cell?_of_block e2).trans (HC2.out.2.2 3 (by omega) (by omega))
      have z3 : wr.frozen? ⟨g2, 3, none⟩ = false := (World.frozen?_of_block e2).trans (HZ2.out 3)
      have r4 : wr.cell? ⟨g3, 4, none⟩ = some (.int .u64 y.od) := hful.2.2 4 (by omega) (by omega)
      have p4 : wr.cell? ⟨g2, 4, none⟩ = some (.int .u64 0) := (World.cell?_of_block e2).trans (HC2.out.2.2 4 (by omega) (by omega))
      have z4 : wr.frozen? ⟨g2, 4, none⟩ = false := (World.frozen?_of_block e2).trans (HZ2.out 4)
      have r5 : wr.cell? ⟨g3, 5, none⟩ = some (.int .u64 y.bt) := hful.2.2 5 (by omega) (by omega)
      have p5 : wr.cell? ⟨g2, 5, none⟩ = some (.int .u64 0) := (World.cell?_of_block e2).trans (HC2.out.2.2 5 (by omega) (by omega))
      have z5 : wr.frozen? ⟨g2, 5, none⟩ = false := (World.frozen?_of_block e2).trans (HZ2.out 5)
      have r6 : wr.cell? ⟨g3, 6, none⟩ = some (.int .u64 y.dr) := hful.2.2 6 (by omega) (by omega)
      have p6 : wr.cell? ⟨g2, 6, none⟩ = some (.int .u64 0) := (World.cell?_of_block e2).trans (HC2.out.2.2 6 (by omega) (by omega))
      have z6 : wr.frozen? ⟨g2, 6, none⟩ = false := (World.frozen?_of_block e2).trans (HZ2.out 6)
      have hge := HNE.out.2.2.1
      clear hat hfz hgr hwr hful hy e2
      go_wp2
      refine bodyPost_ret (v := ov y) ?_ rfl ⟨by rw [HY.out], Nw.setCell (Nw.setCell (Nw.setCell (Nw.setCell (Nw.setCell (Nw.setCell (Nw.setCell HWR.out (p := ⟨g2, 0, none⟩) hge _) (p := ⟨g2, 1, none⟩) hge _) (p := ⟨g2, 2, none⟩) hge _) (p := ⟨g2, 3, none⟩) hge _) (p := ⟨g2, 4, none⟩) hge _) (p := ⟨g2, 5, none⟩) hge _) (p := ⟨g2, 6, none⟩) hge _⟩
      simp [results, Tryd.results13, go_sem, *]
end Go.Proofs.YtnldlkkmjabenaaDoor
