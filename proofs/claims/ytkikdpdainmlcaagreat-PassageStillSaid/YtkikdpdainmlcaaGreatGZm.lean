import Derived.Test.YtkikdpdainmlcaaGreatGZi
import Derived.Test.YtkikdpdainmlcaaGreatGNe
set_option linter.unusedVariables false
set_option linter.unusedSimpArgs false
set_option linter.unnecessarySimpa false
namespace Go.Proofs.YtkikdpdainmlcaaGreat
open Go.RowKit Go.Xt
attribute [local go_sem] Oper.semAt_some
/-! always: the keys that are in all maps, ranged over. -/
structure KCp (p : Nat → Prop) (A B : World) : Prop where
  size : A.heap.size ≤ B.heap.size
  same : ∀ (b : Nat) (o : Obj), A.heap[b]? = some o → o.isCells = true → p b → B.heap[b]? = some o
theorem KCp.refl (p : Nat → Prop) (A : World) : KCp p A A := ⟨Nat.le_refl _, fun _ _ h _ _ => h⟩
theorem KCp.trans {p : Nat → Prop} {A B C : World} (h : KCp p A B) (k : KCp p B C) : KCp p A C := ⟨Nat.le_trans h.size k.size, fun b o h1 h2 h3 => k.same b o (h.same b o h1 h2 h3) h2 h3⟩
theorem KCp.nw {p : Nat → Prop} {A B : World} (h : Nw A B) : KCp p A B := ⟨h.grown.size, fun b o h1 _ _ => (h.grown.block b (Array.getElem?_eq_some_iff.1 h1).1 (by simp)).trans h1⟩
theorem KCp.put {p : Nat → Prop} (W : World) (l : Nat) (o o' : Obj) (h : W.heap[l]? = some o) (hc : o.isCells = false) : KCp p W (W.putObj l o') := by
  refine ⟨(grownBy_putObj' W l o').size, fun b o2 h1 h2 _ => ?_⟩
  have hb : b ≠ l := by rintro rfl; rw [h] at h1; injection h1 with h1; rw [h1] at hc; rw [hc] at h2; cases h2
  exact ((grownBy_putObj' W l o').block b (Array.getElem?_eq_some_iff.1 h1).1 (by simp; exact hb)).trans h1
theorem KCp.cell {p : Nat → Prop} {A B : World} (h : KCp p A B) {b i : Nat} {v : Value} (hp : p b) (hc : A.cell? ⟨b, i, none⟩ = some v) : B.cell? ⟨b, i, none⟩ = some v := by
  obtain ⟨o, h1, h2⟩ := cells_of_cell hc
  exact (World.cell?_of_block (by rw [h1]; exact h.same b o h1 h2 hp)).trans hc
theorem KCp.rd {p : Nat → Prop} {A B : World} (h : KCp p A B) {size n : Nat} {Ad : Option Addr} {xs : List Value} (hp : ∀ b o, Ad = some ⟨b, o, none⟩ → p b) (hr : Rd A size Ad n xs) : Rd B size Ad n xs :=
  ⟨hr.1, fun hn => by
    obtain ⟨b, o, rfl, hb, hc⟩ := hr.2 hn
    exact ⟨b, o, rfl, Nat.lt_of_lt_of_le hb h.size, fun j u hu => h.cell (hp b o rfl) (hc j u hu)⟩⟩
structure RowsP (p : Nat → Prop) (W : World) (A : Option Addr) (len cap : Nat) (zs : List Value) (ms : List Mp) : Prop where
  rd : Rd W 1 A len zs
  len_ : ms.length = len
  lc : len ≤ cap
  l2 : len ≤ 500000
  cap_ : cap ≤ 9223372036854775807
  pA : ∀ b o, A = some ⟨b, o, none⟩ → p b
  el : ∀ (i : Nat) (z : Value) (m : Mp), zs[i]? = some z → ms[i]? = some m → ∃ Az nz cz, z = .slice Az nz cz ∧ Rd W 2 Az nz (pcells m) ∧ nz ≤ 500000 ∧ ∀ b o, Az = some ⟨b, o, none⟩ → p b
theorem RowsP.kcp {p : Nat → Prop} {W W' : World} {A : Option Addr} {len cap : Nat} {zs : List Value} {ms : List Mp} (h : RowsP p W A len cap zs ms) (hk : KCp p W W') : RowsP p W' A len cap zs ms :=
  ⟨hk.rd h.pA h.rd, h.len_, h.lc, h.l2, h.cap_, h.pA, fun i z m hz hm => by
    obtain ⟨Az, nz, cz, h1, h2, h3, h4⟩ := h.el i z m hz hm
    exact ⟨Az, nz, cz, h1, hk.rd h4 h2, h3, h4⟩⟩
def alwT (p0 : Mp) (r : List Mp) (i : Nat) : List Int := ((p0.take i).map (·.1)).filter fun k => r.all (hasC k)
theorem alwT_yes {p0 : Mp} {r : List Mp} {i : Nat} {x : Int × Int} (hx : p0[i]? = some x) (h : r.all (hasC x.1) = true) : alwT p0 r (i + 1) = alwT p0 r i ++ [x.1] := by
  obtain ⟨q, e⟩ := List.getElem?_eq_some_iff.1 hx
  unfold alwT
  rw [List.take_succ_eq_append_getElem q, e, List.map_append, List.filter_append]
  simp [h]
theorem alwT_no {p0 : Mp} {r : List Mp} {i : Nat} {x : Int × Int} (hx : p0[i]? = some x) (h : r.all (hasC x.1) = false) : alwT p0 r (i + 1) = alwT p0 r i := by
  obtain ⟨q, e⟩ := List.getElem?_eq_some_iff.1 hx
  unfold alwT
  rw [List.take_succ_eq_append_getElem q, e, List.map_append, List.filter_append]
  simp [h]
theorem alwT_pre (p0 : Mp) (r : List Mp) (i : Nat) : ∃ suf, alwT p0 r i ++ suf = alwM (p0 :: r) := by
  refine ⟨((p0.drop i).map (·.1)).filter fun k => r.all (hasC k), ?_⟩
  unfold alwT alwM
  rw [← List.filter_append, ← List.map_append, List.take_append_drop]
theorem alwT_all {p0 : Mp} {r : List Mp} {i : Nat} (h : p0.length ≤ i) : alwT p0 r i = alwM (p0 :: r) := by
  unfold alwT alwM
  rw [List.take_of_length_le h]
theorem alwT_len (p0 : Mp) (r : List Mp) (i : Nat) : (alwT p0 r i).length ≤ i := by
  unfold alwT
  refine Nat.le_trans (List.length_filter_le _ _) ?_
  rw [List.length_map, List.length_take]; omega
theorem allh_take {r : List Mp} {j : Nat} {m : Mp} {k : Int} (hm : r[j]? = some m) (h0 : (r.take j).all (hasC k) = true) (h1 : hasC k m = true) : (r.take (j + 1)).all (hasC k) = true := by
  obtain ⟨q, e⟩ := List.getElem?_eq_some_iff.1 hm
  rw [List.take_succ_eq_append_getElem q, List.all_append, h0, e]; simp [h1]
theorem all_no {r : List Mp} {j : Nat} {m : Mp} {k : Int} (hm : r[j]? = some m) (h1 : hasC k m = false) : r.all (hasC k) = false := by
  rw [List.all_eq_false]
  exact ⟨m, List.mem_of_getElem? hm, by simp [h1]⟩
theorem wpIn_scope_straight {F : Fence} {n : Nat} {P : Program} {Q : Exit → Act → World → Prop} {a : Act} {w : World} {c : Code} (h : c.wpIn F n P (Exit.noGoto Q) a w) : (Code.scope c).wpIn F n P Q a w := by
  intro b k cs hro hb hr
  have h0 : (lone (b.atR a (.code (.scope c) :: k)) cs w).fenced P F := fenced_calm hb hr rfl
  have s1 : step P (lone (b.atR a (.code (.scope c) :: k)) cs w) = .next (lone (b.atR a (.code c :: .inScope c :: k)) cs w) := step_lone_go (by simp [stepG, stepG.exec, Frame.atR])
  have s2 : ∀ a w, step P (lone (b.atR a (.inScope c :: k)) cs w) = .next (lone (b.atR a k) cs w) := fun a w => step_lone_go (by simp [stepG, stepG.exec, Frame.atR])
  obtain ⟨e, a₁, w₁, hq, harr⟩ := h b (.inScope c :: k) cs hro hb hr
  cases e with
  | normal => exact ⟨.normal, a₁, w₁, hq, .head h0 s1 (StepsIn.trans harr (.one (fenced_calm hb hr rfl) (s2 _ _)))⟩
  | exit id' =>
    have hx : exitTo id' (.inScope c :: k) = exitTo id' k := by simp [exitTo]
    exact ⟨.exit id', a₁, w₁, hq, fun k' hk => .head h0 s1 (harr.1 k' (by rw [hx]; exact hk)), fun hr' hk => let ⟨k₁, h1, h2⟩ := harr.2 hr' (by rw [hx]; exact hk); ⟨k₁, h1, .head h0 s1 h2⟩⟩
  | goto l => exact hq.elim
  | ret => exact ⟨_, a₁, w₁, hq, .of_steps (.one h0 s1) harr⟩
  | panic ch => exact ⟨_, a₁, w₁, hq, .of_steps (.one h0 s1) harr⟩
  | outgrown => exact ⟨_, a₁, w₁, hq, .of_steps (.one h0 s1) harr⟩
set_option maxRecDepth 100000 in
set_option maxHeartbeats 4000000 in
theorem alw1_in (p : Nat → Prop) (n : Nat) (hn : 2 ≤ n) (l Bm : Nat) (A : Option Addr) (len cap : Nat) (zs : List Value) (p0 : Mp) (r : List Mp) (N : Nat) (hN : p0.length ≤ N) (J Jx : List Int → World → Prop)
    (hY : ∀ pre x W, J pre W → pre.length < N → YieldAt Fence.wide (n - 1) Tryz.prog l #[.int .u64 x] W fun e W' =>
      (e = .returned (.bool true) ∧ J (pre ++ [x]) W' ∧ KCp p W W') ∨ (e = .returned (.bool false) ∧ Jx (pre ++ [x]) W'))
    (W : World) (hJ : AbidesFrom W.heap.size J) (hp : p Bm) (hBm : W.cell? ⟨Bm, 0, none⟩ = some (.slice A len cap)) (hr : RowsP p W A len cap zs (p0 :: r)) (h0 : J [] W) :
    CallsIn Fence.wide n Tryz.prog 56 #[.func (.yield l) #[] #[], .pointer (some ⟨Bm, 0, none⟩)] W fun e W' => (∃ v, e = .returned v) ∧
      ((∃ ys, ys = alwM (p0 :: r) ∧ J ys W') ∨ (∃ pre, (∃ suf, pre ++ suf = alwM (p0 :: r)) ∧ Jx pre W')) := by
  have hlen := hr.len_
  simp only [List.length_cons] at hlen
  obtain ⟨b, o, rfl, hb, hc⟩ := hr.rd.2 (by omega)
  obtain ⟨z0, hz0⟩ : ∃ z, zs[0]? = some z := ⟨_, List.getElem?_eq_getElem (by have := hr.rd.1; omega)⟩
  obtain ⟨A0, n0, c0, rfl, hr0, hn0, hp0⟩ := hr.el 0 z0 p0 hz0 rfl
  have a0 : W.cell? ⟨b, o, none⟩ = some (.slice A0 n0 c0) := hc 0 _ hz0
  haveI : In Bm W := ⟨World.block_lt_of_cell? W _ hBm⟩
  haveI : In b W := ⟨hb⟩
  have hl0 : p0.length = n0 := by have := hr0.1; rw [pcells_len] at this; omega
  have i0 : (0 : Int) < (len : Int) := by omega
  have i00 : 0 < len := by omega
  have hlc := hr.lc
  have hcc : cap = 1 ∨ 1 < cap := by omega
  rcases hcc with rfl | hc1
  all_goals
    try have hne1 := Nat.ne_of_gt hc1
    clear hlc
    refine callsIn_of_wp Tryz.func56 rfl trivial ?_ rfl
    simp only [Tryz.ntmps56, List.size_toArray, List.length_cons, List.length_nil, Nat.reduceAdd, Nat.reduceSub, Array.replicate_succ, Array.replicate_zero, List.push_toArray, List.append_toArray, List.nil_append, List.cons_append]
    have HR := Lib.hid hr
    have HR0 := Lib.hid hr0
    have HP0 := Lib.hid hp0
    have HL0 := Lib.hid hl0
    have HLEN := Lib.hid hlen
    clear hr hr0 hp0 hl0 hlen hc hz0
    refine wpIn_scope_straight (wpIn_seq (wpIn_label ?_))
    gi_wp2
    gi_loopw [4, 6, 11, 18] (fun _ _ i _ wr => ∃ k : Nat, k ≤ n0 ∧ i = .int .i64 k ∧ J (alwT p0 r k) wr ∧ KCp p W wr)
      (fun _ _ i _ _ => n0 - (intOf i).toNat)
    case atStart => exact ⟨0, Nat.zero_le _, rfl, h0, KCp.refl _ _⟩
    case round =>
      obtain ⟨k, hk, rfl, hJk, hKk⟩ := hrel
      by_cases hlt : k < n0
      · obtain ⟨b0, o0, rfl, hb0, hc0⟩ := (hKk.rd HP0.out HR0.out).2 (by omega)
        obtain ⟨⟨x1, x2⟩, hx⟩ : ∃ x, p0[k]? = some x := ⟨_, List.getElem?_eq_getElem (by rw [HL0.out]; exact hlt)⟩
        obtain ⟨g0, g1⟩ := pcells_get p0 k _ hx
        have a1 : wr.cell? ⟨b0, o0 + k * 2, none⟩ = some (.int .u64 x1) := hc0 _ _ g0
        have a2 : wr.cell? ⟨b0, o0 + k * 2 + 1, none⟩ = some (.int .u64 x2) := by have := hc0 _ _ g1; rw [← Nat.add_assoc] at this; exact this
        have hB2 := hKk.cell hp hBm
        haveI : In b0 wr := ⟨hb0⟩
        haveI : In Bm wr := ⟨World.block_lt_of_cell? wr _ hB2⟩
        have HX := Lib.hid hx
        have HJ1 := Lib.hid hJk
        have HK1 := Lib.hid hKk
        have i1 : (k : Int) < (n0 : Int) := by omega
        have i2 : (1 : Int) ≤ (len : Int) := by omega
        have i3 := Int.ofNat_le.2 HR.out.lc
        have i4 : k < 1000000 := by omega
        obtain ⟨rl, hrl⟩ : ∃ q, q = r.length := ⟨_, rfl⟩
        have i5 : len - 1 = rl := by have := HLEN.out; omega
        have HRL := Lib.hid hrl
        clear hx g0 g1 hc0 hJk hKk hrl
        obtain ⟨w5, hw5⟩ : ∃ q, q = wr.alloc (.cells #[.int .u64 x1, .int .u64 x2] 51) := ⟨_, rfl⟩
        have HW5 := Lib.hid hw5
        have hn5 : Nw wr w5 := by rw [hw5]; exact nwa
        have e1 : w5.cell? ⟨wr.heap.size, 0, none⟩ = some (.int .u64 x1) := by rw [hw5]; simp [go_sem]
        have HN5 := Lib.hid hn5
        obtain ⟨B4, hB4⟩ : ∃ q, q = wr.heap.size := ⟨_, rfl⟩
        have HB4 := Lib.hid hB4
        rw [← hB4] at e1
        haveI : In B4 w5 := ⟨World.block_lt_of_cell? w5 _ e1⟩
        clear hw5 hn5 hB4
        gi_wp2
        all_goals
          rw [← HW5.out, ← HB4.out]
          gi_loopw [6, 18] (fun _ a w8 => ∃ j : Nat, j ≤ rl ∧ a = .int .i64 j ∧ Nw w5 w8 ∧ Hid ((r.take j).all (hasC x1) = true)) (fun _ a _ => rl - (intOf a).toNat)
          case atStart => exact ⟨0, Nat.zero_le _, rfl, Nw.refl _, Lib.hid (by simp)⟩
          case round =>
            obtain ⟨j, hj, rfl, ⟨d, rfl⟩, HT⟩ := hrel
            by_cases hjl : j < rl
            · first
                | (exfalso; omega)
                | (obtain ⟨m, hm⟩ : ∃ m, r[j]? = some m := ⟨_, List.getElem?_eq_getElem (by rw [← HRL.out]; exact hjl)⟩
                   obtain ⟨z, hz⟩ : ∃ z, zs[j + 1]? = some z := ⟨_, List.getElem?_eq_getElem (by have := HR.out.rd.1; have := HLEN.out; have := HRL.out; omega)⟩
                   obtain ⟨Az, nz, cz, rfl, hrz, hnz, hpz⟩ := HR.out.el (j + 1) z m hz (by simpa using hm)
                   obtain ⟨b9, o9, e9, -, hc9⟩ := HR.out.rd.2 (by omega)
                   injection e9 with e9
                   injection e9 with e91 e92
                   subst e91 e92
                   have a5 : w5.cell? ⟨b, o + 1 + j, none⟩ = some (.slice Az nz cz) := by
                     have h := hc9 (j + 1) _ hz
                     rw [show o + 1 + j = o + (j + 1) by omega]
                     exact cell_nw (HK1.out.cell (HR.out.pA b o rfl) h) HN5.out
                   haveI : In b w5 := ⟨World.block_lt_of_cell? w5 _ a5⟩
                   have HHS := Lib.hid (fun W' (hq : Nw w5 W') => phas_any Az nz cz m x1 W' (((HK1.out.rd hpz hrz).nw HN5.out).nw hq) (by omega))
                   obtain ⟨hb, hhb⟩ : ∃ q, q = hasC x1 m := ⟨_, rfl⟩
                   rw [← hhb] at HHS
                   have HM := Lib.hid hm
                   have HHB := Lib.hid hhb
                   have i6 : (j : Int) < (rl : Int) := by omega
                   have i7 : j < 1000000 := by have := HR.out.l2; omega
                   clear hm hz hrz hnz hpz hc9 hhb
                   gi_wp2
                   refine ⟨trivial, fun _ => by omega, ((callsIn_wide (n := n - 1)).2 (HHS.out (w5.ext none d) ⟨d, rfl⟩)).mono ?_⟩
                   rintro e W8 ⟨rfl, hn8⟩
                   have HN8 := Lib.hid ((show Nw w5 (w5.ext none d) from ⟨d, rfl⟩).trans hn8)
                   clear hn8
                   cases hb with
                   | true =>
                     gi_wp2
                     go_roundw
                     case rel => exact ⟨j + 1, by omega, by simp, HN8.out, Lib.hid (allh_take HM.out HT.out HHB.out.symm)⟩
                     case measure => simp [intOf]; omega
                   | false =>
                     have HNO := Lib.hid (alwT_no (r := r) HX.out (all_no HM.out HHB.out.symm))
                     gi_wp2
                     go_roundw
                     case rel => exact ⟨k + 1, by omega, by simp, by rw [HNO.out]; exact hJ _ wr W8 none HJ1.out (HN5.out.trans HN8.out).grown (fun r e => by cases e), HK1.out.trans (KCp.nw (HN5.out.trans HN8.out))⟩
                     case measure => simp [intOf]; omega)
            · have ej : j = rl := by omega
              have hall : r.all (hasC x1) = true := by have h := HT.out; rw [List.take_of_length_le (by rw [ej, HRL.out]; exact Nat.le_refl _)] at h; exact h
              have hyes := alwT_yes (r := r) HX.out hall
              have HYS := Lib.hid hyes
              have i6 : ¬ (j : Int) < (rl : Int) := by omega
              have HJ2 := Lib.hid (hJ _ wr (w5.ext none d) none HJ1.out (HN5.out.trans ⟨d, rfl⟩).grown (fun r e => by cases e))
              obtain ⟨fn, tmps, assign, body, hy, hR⟩ := hY (alwT p0 r k) x1 (w5.ext none d) HJ2.out (by have := alwT_len p0 r k; have := HL0.out; omega)
              clear hall hyes ej
              gi_wp2
              refine ⟨fun _ => by omega, hR.mono ?_⟩
              rintro e W3 (⟨rfl, hJ3, hk3⟩ | ⟨rfl, hJx3⟩)
              · have HK3 := Lib.hid (And.intro hJ3 hk3)
                clear hJ3 hk3
                gi_wp2
                go_roundw
                case rel => exact ⟨k + 1, by omega, by simp, by rw [HYS.out]; exact HK3.out.1, (HK1.out.trans (KCp.nw (HN5.out.trans ⟨d, rfl⟩))).trans HK3.out.2⟩
                case measure => simp [intOf]; omega
              · rw [← HYS.out] at hJx3
                have HJX := Lib.hid hJx3
                clear hJx3
                gi_wp2
                rw [Exit.noGoto_ret]
                refine bodyPost_ret (results_none rfl _ _ _) rfl ?_
                exact ⟨⟨_, rfl⟩, .inr ⟨_, alwT_pre p0 r (k + 1), HJX.out⟩⟩
      · have ek : k = n0 := by omega
        have i1 : ¬ (k : Int) < (n0 : Int) := by omega
        have hall := alwT_all (r := r) (show p0.length ≤ k by rw [HL0.out]; omega)
        rw [hall] at hJk
        have HJK := Lib.hid hJk
        clear hall hJk ek
        gi_wp2
        refine bodyPost_end (results_none rfl _ _ _) rfl ?_
        first | exact ⟨⟨_, rfl⟩, .inl HJK.out⟩ | exact ⟨⟨_, rfl⟩, .inl ⟨_, rfl, HJK.out⟩⟩
theorem alw_any (A : Option Addr) (n c : Nat) (w : World) :
    Calls Tryz.prog 34 #[.slice A n c] w fun e w' => e = .returned (.func (.func 56) #[] #[.pointer (some ⟨w.heap.size, 0, none⟩)]) ∧ w' = w.alloc (.cells #[.slice A n c] 81) := by
  have hmf : ∀ (fn : Fn) (first cap : Array Value) (w : World), (Instr.makeFunc fn first cap).run Tryz.prog w = .ok (.func fn first cap) w := fun _ _ _ _ => rfl
  go_enter Tryz.func34, Tryz.ntmps34
  go_wp2
  go_ret
  exact ⟨rfl, rfl⟩
def encK (x : Int) : Array Value := #[.int .u64 x]
theorem alw1_stops (p : Nat → Prop) (n : Nat) (hn : 2 ≤ n) (Bm : Nat) (A : Option Addr) (len cap : Nat) (zs : List Value) (p0 : Mp) (r : List Mp) (N : Nat) (hN : p0.length ≤ N) (w : World) (hp : p Bm) (hBm : w.cell? ⟨Bm, 0, none⟩ = some (.slice A len cap)) (hr : RowsP p w A len cap zs (p0 :: r)) :
    SeqStopsK Fence.wide n Tryz.prog 56 #[.pointer (some ⟨Bm, 0, none⟩)] encK (KCp p) (fun ys => ys = alwM (p0 :: r))
      (fun pre => ∃ suf, pre ++ suf = alwM (p0 :: r)) N w := fun l J Jx W hW hJ _ hY h0 => by
  have hnw : Nw w W := Nw.of_below hW
  exact alw1_in p n hn l Bm A len cap zs p0 r N hN J Jx hY W hJ hp (cell_nw hBm hnw) (hr.kcp (KCp.nw hnw)) h0
theorem RR.rowsP {W : World} {base : Nat} {v : Value} {zs : List Value} {ms : List Mp} (h : RR W base 47 51 2 List.length pcells v zs ms) (hne : ms ≠ []) (hl : ∀ m ∈ ms, m.length ≤ 500000) (h2 : ms.length ≤ 500000) {p : Nat → Prop} (hp : ∀ g, base ≤ g → g < W.heap.size → p g) :
    ∃ A c, v = .slice A ms.length c ∧ RowsP p W A ms.length c zs ms := by
  have hz := h.len
  have hrow := h.row
  rcases own_forms hrow with ⟨h3, h4⟩ | ⟨g, c, h3, h4, h5, h6, h7⟩
  · exfalso
    rw [hz] at h4
    exact hne (List.length_eq_zero_iff.1 h4)
  · subst h3
    rw [hz] at hrow h6 ⊢
    refine ⟨_, c, rfl, own_rd hrow, rfl, h6, h2, by unfold maxLen at h7; omega, fun b o e => ?_, fun i z m hzi hmi => ?_⟩
    · injection e with e; injection e with e1 e2; subst e1
      exact hp g h4 h5.lt
    · have ho := h.el i z m hzi hmi
      obtain ⟨Az, cz, rfl⟩ := own_slice ho
      exact ⟨Az, _, cz, rfl, own_rd ho, hl m (List.mem_of_getElem? hmi), fun b o e => hp b (ho.lt b (by rw [e]; rfl)).1 (ho.lt b (by rw [e]; rfl)).2⟩
theorem durM_len (A : Int → Mp) (ts : List Int) (fr tz : Int) : (durM A ts fr tz).length ≤ ts.length + 1 := by
  have : ∀ (ts : List Int) (out : List Mp), (ts.foldl (putM A fr tz) out).length ≤ out.length + ts.length := by
    intro ts
    induction ts with
    | nil => intro out; simp
    | cons t ts ih =>
      intro out
      rw [List.foldl_cons]
      have h1 := ih (putM A fr tz out t)
      have h2 : (putM A fr tz out t).length ≤ out.length + 1 := by
        unfold putM
        split
        · omega
        · split
          · omega
          · simp
      simp; omega
  have h := this ts [A fr]
  simp at h
  unfold durM; omega
end Go.Proofs.YtkikdpdainmlcaaGreat
