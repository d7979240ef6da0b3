import Derived.Test.YtjpgechcfkhoaaaN
import Derived.Deep.DeepCutAuto
namespace Go.Proofs.Ytjpgechcfkhoaaa
open Go.RowKit Go.Xt
theorem five_good {f : Int → Option Int} {p : List Cl} (hr : Rep f p) (x : Cl) : fiveF p x f = goodP p x := by rw [fiveF, goodP, apRun_iff hr]
theorem Cs.set {w : World} {A : Option Addr} {n : Nat} {l : List Cl} (h : Cs w A n l) (p : Addr) (v : Value) (hp : ∀ b o, A = some ⟨b, o, none⟩ → b ≠ p.block) : Cs (w.setCell p v) A n l :=
  ⟨h.1, fun hn => by
    obtain ⟨b, o, rfl, hb, hc⟩ := h.2 hn
    exact ⟨b, o, rfl, by simpa using hb, fun i c hi => (hc i c hi).same fun j => World.cell?_of_block (heap_set _ _ _ _ (fun e => hp b o rfl e.symm))⟩⟩
theorem MapAt.set {w : World} {mb n : Nat} {f : Int → Option Int} (h : MapAt w mb n f) (p : Addr) (v : Value) (hp : mb ≠ p.block) : MapAt (w.setCell p v) mb n f := by
  obtain ⟨D, h1, h2⟩ := h; exact ⟨D, h1.setCell hp v, h2⟩
set_option maxRecDepth 100000 in
set_option maxHeartbeats 8000000 in
theorem check_any (A : Option Addr) (n c : Nat) (l : List Cl) (w : World) (hn : n ≤ 1000) (hc : n ≤ c) (hcm : c ≤ 9223372036854775807) (hl : Cs w A n l) (hw : ∀ y ∈ l, WfC y) :
    Calls Try.prog 11 #[.slice A n c] w fun e w' => e = .returned (chkV l) ∧ Nw w w' := by
  have HL := Lib.hid hl
  have HW := Lib.hid hw
  have hlen := hl.1
  clear hl hw
  have hmm := @run_makeMap Try.prog
  go_enter Try.func11, Try.ntmps11
  go_wp2
  go_loopw [5, 6, 7, 13] (fun _ _ _ i wr => ∃ (k : Nat) (f : Int → Option Int), k ≤ n ∧ i = .int .i64 k ∧ Hid (bad l = badFrom l k (l.length - k)) ∧ Hid (Rep f (l.take k)) ∧ Hid (MapAt wr w.heap.size (3 * k) f) ∧ (∃ u, wr.cell? ⟨w.heap.size + 1, 0, none⟩ = some u) ∧ wr.frozen? ⟨w.heap.size + 1, 0, none⟩ = false ∧ wr.cell? ⟨w.heap.size + 1, 1, none⟩ = some (.map (some w.heap.size)) ∧ Nw w wr) (fun _ _ _ i _ => n - (intOf i).toNat)
  case atStart =>
    exact ⟨0, fun _ => none, by omega, rfl, rfl, rep_nil, (mapAt_new w).kept (World.grownBy_alloc _ _ none) (by simp), ⟨.slice none 0 0, by simp [go_sem]⟩, by simp [go_sem], by simp [go_sem], (by repeat (first | exact Xt.Nw.refl _ | refine Xt.Nw.drew ?_ | refine Xt.Nw.drewN ?_ _ | refine Xt.Nw.alloc ?_ _ | refine Xt.Nw.joined ?_ | refine Xt.Nw.drewd ?_ | refine Xt.Nw.drewdN ?_ | refine Xt.Nw.ext ?_ | refine Xt.Nw.ext_some ?_ (by assumption) | refine Xt.Nw.setCell ?_ (by simp [go_sem] <;> omega) _))⟩
  case round =>
    obtain ⟨k, f, hk, rfl, hbd, hrep, hmap, ⟨u0, hk0⟩, hfz, hk1, hnw⟩ := hrel
    by_cases hlt : k < n
    · obtain ⟨b, o, x, rfl, hb, hx, hcx0⟩ := HL.out.get hlt
      obtain ⟨dr, hdr⟩ := hnw
      have hnw : Nw w wr := ⟨dr, hdr⟩
      have hbr : b < wr.heap.size := Nat.lt_of_lt_of_le hb hnw.grown.size
      have hcx : AtC wr b (o + k * 18) x := by rw [hdr]; exact hcx0.ext hb dr
      haveI : CallAt wr b (o + k * 18) x := ⟨hcx, hbr⟩
      have lk := World.block_lt_of_cell? wr _ hk0
      have lk' : w.heap.size + 1 < wr.heap.size := lk
      haveI : In (w.heap.size + 1) wr := ⟨lk⟩
      have hkc : (k : Int) + 1 ≤ (c : Int) := by omega
      have hkn : (k : Int) < (n : Int) := by omega
      have hCs1 := (((HL.out.take (show k + 1 ≤ n by omega)).nw hnw).set ⟨w.heap.size + 1, 0, none⟩ (.slice (some ⟨b, o, none⟩) (k + 1) c) (fun b' o' e => by injection e with e; injection e with e1 e2; show b' ≠ w.heap.size + 1; omega)).nw (show Nw (wr.setCell ⟨w.heap.size + 1, 0, none⟩ (.slice (some ⟨b, o, none⟩) (k + 1) c)) (((wr.setCell ⟨w.heap.size + 1, 0, none⟩ (.slice (some ⟨b, o, none⟩) (k + 1) c)).alloc (.cells #[.int .i64 x.th, .int .i64 x.ix, .int .u8 x.kd, .int .u64 x.ka, .int .u64 x.kb, .int .u64 x.kc, .int .u64 x.kx, .int .u64 x.ky, .int .u64 x.kz, .int .i64 x.inv, .int .i64 x.took, .int .i64 x.ans, .int .i64 x.st, .int .i64 x.re, .bool x.rf, .int .u64 x.rk, .int .u64 x.rv, .int .i64 x.rc] 47)).alloc (.cells #[.func (.func 33) #[.pointer (some ⟨w.heap.size + 1, 0, none⟩)] #[], .func (.func 34) #[.pointer (some ⟨w.heap.size + 1, 0, none⟩)] #[], .func (.func 35) #[.pointer (some ⟨w.heap.size + 1, 0, none⟩)] #[], .func (.func 36) #[.pointer (some ⟨w.heap.size + 1, 0, none⟩)] #[], .func (.func 37) #[.pointer (some ⟨w.heap.size + 1, 0, none⟩)] #[]] 66)) from (by repeat (first | exact Xt.Nw.refl _ | refine Xt.Nw.drew ?_ | refine Xt.Nw.drewN ?_ _ | refine Xt.Nw.alloc ?_ _ | refine Xt.Nw.joined ?_ | refine Xt.Nw.drewd ?_ | refine Xt.Nw.drewdN ?_ | refine Xt.Nw.ext ?_ | refine Xt.Nw.ext_some ?_ (by assumption) | refine Xt.Nw.setCell ?_ (by simp [go_sem] <;> omega) _)))
      have hM1 := ((hmap.out.set ⟨w.heap.size + 1, 0, none⟩ (.slice (some ⟨b, o, none⟩) (k + 1) c) (by show w.heap.size ≠ w.heap.size + 1; omega)).kept (World.grownBy_alloc (wr.setCell ⟨w.heap.size + 1, 0, none⟩ (.slice (some ⟨b, o, none⟩) (k + 1) c)) (.cells #[.int .i64 x.th, .int .i64 x.ix, .int .u8 x.kd, .int .u64 x.ka, .int .u64 x.kb, .int .u64 x.kc, .int .u64 x.kx, .int .u64 x.ky, .int .u64 x.kz, .int .i64 x.inv, .int .i64 x.took, .int .i64 x.ans, .int .i64 x.st, .int .i64 x.re, .bool x.rf, .int .u64 x.rk, .int .u64 x.rv, .int .i64 x.rc] 47) none) (by simp)).kept (World.grownBy_alloc ((wr.setCell ⟨w.heap.size + 1, 0, none⟩ (.slice (some ⟨b, o, none⟩) (k + 1) c)).alloc (.cells #[.int .i64 x.th, .int .i64 x.ix, .int .u8 x.kd, .int .u64 x.ka, .int .u64 x.kb, .int .u64 x.kc, .int .u64 x.kx, .int .u64 x.ky, .int .u64 x.kz, .int .i64 x.inv, .int .i64 x.took, .int .i64 x.ans, .int .i64 x.st, .int .i64 x.re, .bool x.rf, .int .u64 x.rk, .int .u64 x.rv, .int .i64 x.rc] 47)) (.cells #[.func (.func 33) #[.pointer (some ⟨w.heap.size + 1, 0, none⟩)] #[], .func (.func 34) #[.pointer (some ⟨w.heap.size + 1, 0, none⟩)] #[], .func (.func 35) #[.pointer (some ⟨w.heap.size + 1, 0, none⟩)] #[], .func (.func 36) #[.pointer (some ⟨w.heap.size + 1, 0, none⟩)] #[], .func (.func 37) #[.pointer (some ⟨w.heap.size + 1, 0, none⟩)] #[]] 66) none) (by simp)
      have hA1 : AtC (((wr.setCell ⟨w.heap.size + 1, 0, none⟩ (.slice (some ⟨b, o, none⟩) (k + 1) c)).alloc (.cells #[.int .i64 x.th, .int .i64 x.ix, .int .u8 x.kd, .int .u64 x.ka, .int .u64 x.kb, .int .u64 x.kc, .int .u64 x.kx, .int .u64 x.ky, .int .u64 x.kz, .int .i64 x.inv, .int .i64 x.took, .int .i64 x.ans, .int .i64 x.st, .int .i64 x.re, .bool x.rf, .int .u64 x.rk, .int .u64 x.rv, .int .i64 x.rc] 47)).alloc (.cells #[.func (.func 33) #[.pointer (some ⟨w.heap.size + 1, 0, none⟩)] #[], .func (.func 34) #[.pointer (some ⟨w.heap.size + 1, 0, none⟩)] #[], .func (.func 35) #[.pointer (some ⟨w.heap.size + 1, 0, none⟩)] #[], .func (.func 36) #[.pointer (some ⟨w.heap.size + 1, 0, none⟩)] #[], .func (.func 37) #[.pointer (some ⟨w.heap.size + 1, 0, none⟩)] #[]] 66)) wr.heap.size 0 x := by
        have h := boxed (wr.setCell ⟨w.heap.size + 1, 0, none⟩ (.slice (some ⟨b, o, none⟩) (k + 1) c)) x 47
        rw [World.size_setCell] at h
        exact h.alloc (by simp) _
      have k0 : (((wr.setCell ⟨w.heap.size + 1, 0, none⟩ (.slice (some ⟨b, o, none⟩) (k + 1) c)).alloc (.cells #[.int .i64 x.th, .int .i64 x.ix, .int .u8 x.kd, .int .u64 x.ka, .int .u64 x.kb, .int .u64 x.kc, .int .u64 x.kx, .int .u64 x.ky, .int .u64 x.kz, .int .i64 x.inv, .int .i64 x.took, .int .i64 x.ans, .int .i64 x.st, .int .i64 x.re, .bool x.rf, .int .u64 x.rk, .int .u64 x.rv, .int .i64 x.rc] 47)).alloc (.cells #[.func (.func 33) #[.pointer (some ⟨w.heap.size + 1, 0, none⟩)] #[], .func (.func 34) #[.pointer (some ⟨w.heap.size + 1, 0, none⟩)] #[], .func (.func 35) #[.pointer (some ⟨w.heap.size + 1, 0, none⟩)] #[], .func (.func 36) #[.pointer (some ⟨w.heap.size + 1, 0, none⟩)] #[], .func (.func 37) #[.pointer (some ⟨w.heap.size + 1, 0, none⟩)] #[]] 66)).cell? ⟨w.heap.size + 1, 0, none⟩ = some (.slice (some ⟨b, o, none⟩) (k + 1) c) := by
        rw [World.cell?_of_block (RowKit.Below.heap_alloc _ _ _ (by simp; omega)), World.cell?_of_block (RowKit.Below.heap_alloc _ _ _ (by simp; omega))]
        exact World.cell?_setCell_same' _ _ _ (by rw [hk0]; rfl)
      have k1 : (((wr.setCell ⟨w.heap.size + 1, 0, none⟩ (.slice (some ⟨b, o, none⟩) (k + 1) c)).alloc (.cells #[.int .i64 x.th, .int .i64 x.ix, .int .u8 x.kd, .int .u64 x.ka, .int .u64 x.kb, .int .u64 x.kc, .int .u64 x.kx, .int .u64 x.ky, .int .u64 x.kz, .int .i64 x.inv, .int .i64 x.took, .int .i64 x.ans, .int .i64 x.st, .int .i64 x.re, .bool x.rf, .int .u64 x.rk, .int .u64 x.rv, .int .i64 x.rc] 47)).alloc (.cells #[.func (.func 33) #[.pointer (some ⟨w.heap.size + 1, 0, none⟩)] #[], .func (.func 34) #[.pointer (some ⟨w.heap.size + 1, 0, none⟩)] #[], .func (.func 35) #[.pointer (some ⟨w.heap.size + 1, 0, none⟩)] #[], .func (.func 36) #[.pointer (some ⟨w.heap.size + 1, 0, none⟩)] #[], .func (.func 37) #[.pointer (some ⟨w.heap.size + 1, 0, none⟩)] #[]] 66)).cell? ⟨w.heap.size + 1, 1, none⟩ = some (.map (some w.heap.size)) := by
        rw [World.cell?_of_block (RowKit.Below.heap_alloc _ _ _ (by simp; omega)), World.cell?_of_block (RowKit.Below.heap_alloc _ _ _ (by simp; omega)), World.cell?_setCell_other _ _ _ _ (by simp)]
        exact hk1
      have kz : (((wr.setCell ⟨w.heap.size + 1, 0, none⟩ (.slice (some ⟨b, o, none⟩) (k + 1) c)).alloc (.cells #[.int .i64 x.th, .int .i64 x.ix, .int .u8 x.kd, .int .u64 x.ka, .int .u64 x.kb, .int .u64 x.kc, .int .u64 x.kx, .int .u64 x.ky, .int .u64 x.kz, .int .i64 x.inv, .int .i64 x.took, .int .i64 x.ans, .int .i64 x.st, .int .i64 x.re, .bool x.rf, .int .u64 x.rk, .int .u64 x.rv, .int .i64 x.rc] 47)).alloc (.cells #[.func (.func 33) #[.pointer (some ⟨w.heap.size + 1, 0, none⟩)] #[], .func (.func 34) #[.pointer (some ⟨w.heap.size + 1, 0, none⟩)] #[], .func (.func 35) #[.pointer (some ⟨w.heap.size + 1, 0, none⟩)] #[], .func (.func 36) #[.pointer (some ⟨w.heap.size + 1, 0, none⟩)] #[], .func (.func 37) #[.pointer (some ⟨w.heap.size + 1, 0, none⟩)] #[]] 66)).frozen? ⟨w.heap.size + 1, 0, none⟩ = false := by
        rw [World.frozen?_of_block (RowKit.Below.heap_alloc _ _ _ (by simp; omega)), World.frozen?_of_block (RowKit.Below.heap_alloc _ _ _ (by simp; omega)), World.frozen?_setCell]
        exact hfz
      have hx1 : (l.take (k + 1))[k]? = some x := by rw [List.getElem?_take, if_pos (by omega)]; exact hx
      have hN3 : Nw w (((wr.setCell ⟨w.heap.size + 1, 0, none⟩ (.slice (some ⟨b, o, none⟩) (k + 1) c)).alloc (.cells #[.int .i64 x.th, .int .i64 x.ix, .int .u8 x.kd, .int .u64 x.ka, .int .u64 x.kb, .int .u64 x.kc, .int .u64 x.kx, .int .u64 x.ky, .int .u64 x.kz, .int .i64 x.inv, .int .i64 x.took, .int .i64 x.ans, .int .i64 x.st, .int .i64 x.re, .bool x.rf, .int .u64 x.rk, .int .u64 x.rv, .int .i64 x.rc] 47)).alloc (.cells #[.func (.func 33) #[.pointer (some ⟨w.heap.size + 1, 0, none⟩)] #[], .func (.func 34) #[.pointer (some ⟨w.heap.size + 1, 0, none⟩)] #[], .func (.func 35) #[.pointer (some ⟨w.heap.size + 1, 0, none⟩)] #[], .func (.func 36) #[.pointer (some ⟨w.heap.size + 1, 0, none⟩)] #[], .func (.func 37) #[.pointer (some ⟨w.heap.size + 1, 0, none⟩)] #[]] 66)) := ((hnw.setCell (p := ⟨w.heap.size + 1, 0, none⟩) (by show w.heap.size ≤ w.heap.size + 1; omega) _).alloc _).alloc _
      have hH := holds_any (wr.heap.size + 1) wr.heap.size (w.heap.size + 1) w.heap.size k (3 * k) c (some ⟨b, o, none⟩) (l.take (k + 1)) f x (((wr.setCell ⟨w.heap.size + 1, 0, none⟩ (.slice (some ⟨b, o, none⟩) (k + 1) c)).alloc (.cells #[.int .i64 x.th, .int .i64 x.ix, .int .u8 x.kd, .int .u64 x.ka, .int .u64 x.kb, .int .u64 x.kc, .int .u64 x.kx, .int .u64 x.ky, .int .u64 x.kz, .int .i64 x.inv, .int .i64 x.took, .int .i64 x.ans, .int .i64 x.st, .int .i64 x.re, .bool x.rf, .int .u64 x.rk, .int .u64 x.rv, .int .i64 x.rc] 47)).alloc (.cells #[.func (.func 33) #[.pointer (some ⟨w.heap.size + 1, 0, none⟩)] #[], .func (.func 34) #[.pointer (some ⟨w.heap.size + 1, 0, none⟩)] #[], .func (.func 35) #[.pointer (some ⟨w.heap.size + 1, 0, none⟩)] #[], .func (.func 36) #[.pointer (some ⟨w.heap.size + 1, 0, none⟩)] #[], .func (.func 37) #[.pointer (some ⟨w.heap.size + 1, 0, none⟩)] #[]] 66)) (by omega) (by omega) (by simp [go_sem]) (by simp [go_sem]) (by simp [go_sem]) (by simp [go_sem]) (by simp [go_sem]) hA1 k0 k1 hCs1 hx1 (by omega) hcm (HW.out x (List.mem_of_getElem? hx)) hM1
      rw [List.take_take, Nat.min_eq_left (by omega : k ≤ k + 1), five_good hrep.out] at hH
      have hsz3 : (((wr.setCell ⟨w.heap.size + 1, 0, none⟩ (.slice (some ⟨b, o, none⟩) (k + 1) c)).alloc (.cells #[.int .i64 x.th, .int .i64 x.ix, .int .u8 x.kd, .int .u64 x.ka, .int .u64 x.kb, .int .u64 x.kc, .int .u64 x.kx, .int .u64 x.ky, .int .u64 x.kz, .int .i64 x.inv, .int .i64 x.took, .int .i64 x.ans, .int .i64 x.st, .int .i64 x.re, .bool x.rf, .int .u64 x.rk, .int .u64 x.rv, .int .i64 x.rc] 47)).alloc (.cells #[.func (.func 33) #[.pointer (some ⟨w.heap.size + 1, 0, none⟩)] #[], .func (.func 34) #[.pointer (some ⟨w.heap.size + 1, 0, none⟩)] #[], .func (.func 35) #[.pointer (some ⟨w.heap.size + 1, 0, none⟩)] #[], .func (.func 36) #[.pointer (some ⟨w.heap.size + 1, 0, none⟩)] #[], .func (.func 37) #[.pointer (some ⟨w.heap.size + 1, 0, none⟩)] #[]] 66)).heap.size = wr.heap.size + 2 := by simp
      have HX := Lib.hid hx
      have HM1 := Lib.hid hM1
      have HK1 := Lib.hid k1
      have HK0 := Lib.hid k0
      have HKZ := Lib.hid kz
      have HN3 := Lib.hid hN3
      have HH := Lib.hid hH
      clear hnw hx hcx hcx0 hdr hCs1 hM1 hA1 k1 hx1 hH k0 kz hN3
      cases hg : goodP (l.take k) x with
      | true =>
        rw [hg] at HH
        have HG := Lib.hid hg
        clear hg
        go_wp2_with (go_at_call 32; refine HH.out.mono ?_; rintro e w' ⟨rfl, hf, hgr⟩; have HF := Lib.hid hf; have HGr := Lib.hid hgr; clear hf hgr)
        obtain ⟨f', hf', hm'⟩ := (show (true = true → _) from fun _ => HF.out trivial) rfl
        have hblk : w'.heap[w.heap.size + 1]? = _ := HGr.out.block (w.heap.size + 1) (by rw [hsz3]; omega) (by intro e; injection e with e; omega)
        refine ⟨⟨k + 1, f', by omega, by go_num, ?_, ?_, ?_, ⟨_, (World.cell?_of_block hblk).trans HK0.out⟩, (World.frozen?_of_block hblk).trans HKZ.out, (World.cell?_of_block hblk).trans HK1.out, HN3.out.row HGr.out (fun j e => by injection e with e; omega)⟩, by simp [intOf]; omega⟩
        · show _ = _
          rw [hbd.out, bad_step HX.out HG.out]
        · show Rep _ _
          obtain ⟨p1, q1⟩ := List.getElem?_eq_some_iff.1 HX.out
          rw [List.take_succ_eq_append_getElem p1, q1]
          exact rep_step hrep.out hf'
        · show MapAt _ _ _ _
          rw [show 3 * (k + 1) = 3 * k + 3 by omega]
          exact hm'
      | false =>
        rw [hg] at HH
        have HG := Lib.hid hg
        clear hg
        go_wp2_with (go_at_call 32; refine HH.out.mono ?_; rintro e w' ⟨rfl, hf, hgr⟩; have HF := Lib.hid hf; have HGr := Lib.hid hgr; clear hf hgr)
        refine bodyPost_ret (results_tmp2 rfl _ _ _) rfl ⟨?_, HN3.out.row HGr.out (fun j e => by injection e with e; omega)⟩
        rw [chkV, hbd.out, bad_stop HX.out HG.out]; rfl
    · have hkn : k = n := by omega
      go_wp2
      refine bodyPost_ret (results_tmp2 rfl _ _ _) rfl ⟨?_, hnw⟩
      rw [chkV, hbd.out, hkn, ← hlen, Nat.sub_self]; rfl
end Go.Proofs.Ytjpgechcfkhoaaa
