import Derived.Test.YtfnapkfdocabcaaGreatGOj
import Derived.Deep.RegionHeld3
import Derived.Maps.AppendAt
set_option linter.unusedVariables false
set_option linter.unusedSimpArgs false
set_option linter.unnecessarySimpa false
namespace Go.Proofs.YtfnapkfdocabcaaGreat
open Go.RowKit Go.Xt
/-! Helpers of the law WitnessAlone: operations and results in memory, the counts, the state of its loop. -/
theorem perf_key {s : Md} {N : Nat} (hok : s.Ok N) (t : Nat) (x : Th) (o : Ox) : 0 ≤ (perfM s t x o).1.key ∧ (perfM s t x o).1.key < 18446744073709551616 := by
  by_cases k12 : o.k = 12
  · cases hq : nextL x.lo x.hi s.l with
    | none => unfold perfM; simp [k12, hq]
    | some q =>
      have := (hok.u64 q (nextL_mem hq).1).1
      unfold perfM; simp [k12, hq]; omega
  have h0 : (perfM s t x o).1.key = 0 := by
    unfold perfM
    by_cases k1 : o.k = 1
    · rw [if_pos k1]
    rw [if_neg k1]
    by_cases k2 : o.k = 2
    · rw [if_pos k2]
    rw [if_neg k2]
    by_cases k3 : o.k = 3
    · rw [if_pos k3]
    rw [if_neg k3]
    by_cases k4 : o.k = 4
    · rw [if_pos k4]
    rw [if_neg k4]
    by_cases k5 : o.k = 5
    · rw [if_pos k5]
    rw [if_neg k5]
    by_cases k6 : o.k = 6
    · rw [if_pos k6]
    rw [if_neg k6]
    by_cases k7 : o.k = 7
    · rw [if_pos k7]
    rw [if_neg k7]
    by_cases k8 : o.k = 8
    · rw [if_pos k8]
    rw [if_neg k8]
    by_cases k9 : o.k = 9
    · rw [if_pos k9]
    rw [if_neg k9]
    by_cases k10 : o.k = 10
    · rw [if_pos k10]
    rw [if_neg k10]
    by_cases k11 : o.k = 11
    · rw [if_pos k11]
    rw [if_neg k11, if_neg k12]
    by_cases k13 : o.k = 13
    · rw [if_pos k13]
    rw [if_neg k13]
    by_cases k14 : o.k = 14
    · rw [if_pos k14]
    rw [if_neg k14]
  omega
theorem doM_key {s : Md} {N : Nat} (hok : s.Ok N) (t : Int) (o : Ox) : 0 ≤ (doM s t o).1.key ∧ (doM s t o).1.key < 18446744073709551616 := by
  unfold doM
  split
  · simp
  · split
    · exact perf_key hok _ _ _
    · simp
/-- An operation's cells. -/
def ocells (o : Ox) : List Value := [.int .u8 o.k, .int .u64 o.key, .int .u64 o.hi, .int .u64 o.val, .int .u64 o.old, .int .u64 o.by_, .int .u64 o.draw]
/-- A result's cells. -/
def rcells (r : Rs) : List Value := [.int .i64 r.err, .bool r.fd, .int .u64 r.key, .int .u64 r.val, .int .i64 r.cnt]
theorem sizeOp : (Tryz.prog.info? 43).map (·.size) = some 7 := by kernel_rfl
theorem sizeRes : (Tryz.prog.info? 33).map (·.size) = some 5 := by kernel_rfl
/-- Loads of an operation and of a result, kept shut in the walk. -/
def loadOp (p : Value) : Sem Value := Instr.loadAt 43 p
@[go_sem ↓] theorem loadOp_in (p : Value) : Instr.loadAt 43 p = loadOp p := rfl
theorem run_loadOp {w : World} {b q : Nat} {o : Ox} (h : w.rangeAt b q (ocells o)) : (loadOp (.pointer (some ⟨b, q, none⟩))).run Tryz.prog w = .ok (.agg #[.int .u8 o.k, .int .u64 o.key, .int .u64 o.hi, .int .u64 o.val, .int .u64 o.old, .int .u64 o.by_, .int .u64 o.draw]) w :=
  run_loadAt_mid w b q 43 (ocells o) _ h Tryz.underlying43 rfl sizeOp
def loadRes (p : Value) : Sem Value := Instr.loadAt 33 p
@[go_sem ↓] theorem loadRes_in (p : Value) : Instr.loadAt 33 p = loadRes p := rfl
theorem run_loadRes {w : World} {b q : Nat} {r : Rs} (h : w.rangeAt b q (rcells r)) : (loadRes (.pointer (some ⟨b, q, none⟩))).run Tryz.prog w = .ok (.agg #[.int .i64 r.err, .bool r.fd, .int .u64 r.key, .int .u64 r.val, .int .i64 r.cnt]) w :=
  run_loadAt_mid w b q 33 (rcells r) _ h Tryz.underlying33 rfl sizeRes
theorem range_nw {w w' : World} {b q : Nat} {cs : List Value} (h : w.rangeAt b q cs) (hn : Nw w w') : w'.rangeAt b q cs := fun j v hv => cell_nw (h j v hv) hn
theorem range_chg {w w' : World} {b q : Nat} {cs : List Value} {X : List Nat} (h : w.rangeAt b q cs) (hn : Chg X w w') (hb : b ∉ X) : w'.rangeAt b q cs := fun j v hv => hn.cell (h j v hv) hb
/-- A call's operation. -/
theorem AtC.opr {w : World} {b o : Nat} {x : Cl} (h : AtC w b o x) : w.rangeAt b (o + 2) (ocells (opC x)) := fun j v hv => by
  have hj : j < 7 := (List.getElem?_eq_some_iff.1 hv).1
  have := h.range (2 + j) v (by
    rcases (by omega : j = 0 ∨ j = 1 ∨ j = 2 ∨ j = 3 ∨ j = 4 ∨ j = 5 ∨ j = 6) with rfl | rfl | rfl | rfl | rfl | rfl | rfl <;> exact hv)
  rw [show o + 2 + j = o + (2 + j) by omega]; exact this
/-- A store of a result, kept shut in the walk. -/
def storeRes (p v : Value) : Sem Unit := Instr.storeAt 33 p v
@[go_sem ↓] theorem storeRes_in (p v : Value) : Instr.storeAt 33 p v = storeRes p v := rfl
theorem run_storeRes {w : World} {b o : Nat} (r : Rs) (h : w.there b o 5) : (storeRes (.pointer (some ⟨b, o, none⟩)) (.agg #[.int .i64 r.err, .bool r.fd, .int .u64 r.key, .int .u64 r.val, .int .i64 r.cnt])).run Tryz.prog w = .ok () (w.setCells b o (rcells r)) :=
  run_storeAt_mid (P := Tryz.prog) w b o 33 #[.int .i64 r.err, .bool r.fd, .int .u64 r.key, .int .u64 r.val, .int .i64 r.cnt] h (by exact sizeRes) (all_oneCell_toArray (fun v hv => by simp at hv; rcases hv with rfl | rfl | rfl | rfl | rfl <;> rfl))
theorem Cs.setR {W : World} {b n i : Nat} {l : List Cl} {x : Cl} (h : Cs W (some ⟨b, 0, none⟩) n l) (hi : l[i]? = some x) (r : Rs) : Cs (W.setCells b (i * 18 + 13) (rcells r)) (some ⟨b, 0, none⟩) n (l.set i (setR x r)) := by
  have hil := (List.getElem?_eq_some_iff.1 hi).1
  have at1 : ∀ (k : List Cl) (y : Cl), k.length = l.length → (k.set i y)[i]? = some y := fun k y hk => List.getElem?_set_self (by omega)
  have s1 := h.setf (c' := { x with re := r.err }) (j := 13) (off := i * 18 + 13) (v := .int .i64 r.err) hi (by omega) rfl rfl
  have s2 := s1.setf (c' := { x with re := r.err, rf := r.fd }) (j := 14) (off := i * 18 + 13 + 1) (v := .bool r.fd) (at1 _ _ rfl) (by omega) rfl rfl
  have s3 := s2.setf (c' := { x with re := r.err, rf := r.fd, rk := r.key }) (j := 15) (off := i * 18 + 13 + 1 + 1) (v := .int .u64 r.key) (at1 _ _ (by simp)) (by omega) rfl rfl
  have s4 := s3.setf (c' := { x with re := r.err, rf := r.fd, rk := r.key, rv := r.val }) (j := 16) (off := i * 18 + 13 + 1 + 1 + 1) (v := .int .u64 r.val) (at1 _ _ (by simp)) (by omega) rfl rfl
  have s5 := s4.setf (c' := Proofs.YtfnapkfdocabcaaGreat.setR x r) (j := 17) (off := i * 18 + 13 + 1 + 1 + 1 + 1) (v := .int .i64 r.cnt) (at1 _ _ (by simp)) (by omega) rfl rfl
  simp only [List.set_set] at s5
  exact s5
theorem chg_cells5 (W : World) (b o : Nat) (r : Rs) : Chg [b] W (W.setCells b o (rcells r)) :=
  (((((Chg.set1 W b o _).set2 (o + 1) _).set2 (o + 1 + 1) _).set2 (o + 1 + 1 + 1) _).set2 (o + 1 + 1 + 1 + 1) _)
/-- A slice value whose elements are the operations l. -/
def Ops (w : World) (A : Option Addr) (n : Nat) (l : List Ox) : Prop :=
  l.length = n ∧ (0 < n → ∃ b o, A = some ⟨b, o, none⟩ ∧ b < w.heap.size ∧ ∀ i x, l[i]? = some x → w.rangeAt b (o + i * 7) (ocells x))
theorem Ops.get {w : World} {A : Option Addr} {n : Nat} {l : List Ox} (h : Ops w A n l) {i : Nat} (hi : i < n) : ∃ b o x, A = some ⟨b, o, none⟩ ∧ b < w.heap.size ∧ l[i]? = some x ∧ w.rangeAt b (o + i * 7) (ocells x) := by
  obtain ⟨b, o, rfl, hb, hc⟩ := h.2 (by omega)
  have hl : i < l.length := by rw [h.1]; exact hi
  exact ⟨b, o, l[i], rfl, hb, List.getElem?_eq_getElem hl, hc i _ (List.getElem?_eq_getElem hl)⟩
theorem Ops.nw {w w' : World} {A : Option Addr} {n : Nat} {l : List Ox} (h : Ops w A n l) (hn : Nw w w') : Ops w' A n l :=
  ⟨h.1, fun h0 => by obtain ⟨b, o, rfl, hb, hc⟩ := h.2 h0; exact ⟨b, o, rfl, Nat.lt_of_lt_of_le hb hn.grown.size, fun i x hx => range_nw (hc i x hx) hn⟩⟩
theorem Ops.chg {w w' : World} {A : Option Addr} {n : Nat} {l : List Ox} {X : List Nat} (h : Ops w A n l) (hn : Chg X w w') (hx : ∀ b ∈ X, w.heap.size ≤ b) : Ops w' A n l :=
  ⟨h.1, fun h0 => by obtain ⟨b, o, rfl, hb, hc⟩ := h.2 h0; exact ⟨b, o, rfl, Nat.lt_of_lt_of_le hb hn.size, fun i x hx' => range_chg (hc i x hx') hn (fun e => by have := hx b e; omega)⟩⟩
/-- A call just built, in a slice of one. -/
@[go_sem] theorem run_buildNew (w : World) (a0 a1 a2 a3 a4 a5 a6 a7 a8 a9 a10 a11 a12 a13 : Int) (a14 : Bool) (a15 a16 a17 : Int) : (buildCalls 1 #[(0, .agg #[.int .i64 a0, .int .i64 a1, .int .u8 a2, .int .u64 a3, .int .u64 a4, .int .u64 a5, .int .u64 a6, .int .u64 a7, .int .u64 a8, .int .i64 a9, .int .i64 a10, .int .i64 a11, .int .i64 a12, .int .i64 a13, .bool a14, .int .u64 a15, .int .u64 a16, .int .i64 a17])]).run Tryz.prog w = .ok (.slice (some ⟨w.heap.size, 0, none⟩) 1 1) (w.alloc (.cells #[.int .i64 a0, .int .i64 a1, .int .u8 a2, .int .u64 a3, .int .u64 a4, .int .u64 a5, .int .u64 a6, .int .u64 a7, .int .u64 a8, .int .i64 a9, .int .i64 a10, .int .i64 a11, .int .i64 a12, .int .i64 a13, .bool a14, .int .u64 a15, .int .u64 a16, .int .i64 a17] 46)) :=
  run_build1' w ⟨a0, a1, a2, a3, a4, a5, a6, a7, a8, a9, a10, a11, a12, a13, a14, a15, a16, a17⟩
/-- append of elements just built, at one step of a region, beside whatever else lies in memory. -/
theorem step_appC {P : Program} {ops : Array Oper} {o : Oper} {a : Act} {K : Act → World → Prop} {Q : Exit → Act → World → Prop} {E : Prop} (hgd : o.guard = none) (s x : Operand) (t : TypeId)
    (ho : o.op = .call { callee := .builtin .append, args := #[s, x], argTypes := #[t, t] })
    (e : TypeId) (z : Value) (size bytes : Nat) (ht : P.underlying t = some (.slice e)) (hi : (P.info? e).map (fun i => (i.zero, i.size, i.bytes)) = some (some z, size, bytes)) (hzs : z.cells.size = size) (hsz : 0 < size)
    (base : Nat) (w' : World) (hb : base ≤ w'.heap.size) (v : Value) (n : Nat) (xs : List Value) (hs : a.eval s = v) (hown : w'.ownsRow base e size v n xs)
    (g m c : Nat) (te : TypeId) (news : List Value) (hx : a.eval x = .slice (some ⟨g, 0, none⟩) m c) (hg : g = w'.heap.size) (hl : news.length = m * size) (h1 : ∀ u ∈ news, u.oneCell' = true)
    (h63 : n + m ≤ maxLen) (hbytes : (n + m) * bytes ≤ 140737488355328)
    (h : ∀ v' w1, w1.ownsRow base e size v' (n + m) (xs ++ news) → Chg v.ownBlock.toList w' w1 → (∀ k, v'.ownBlock = some k → v.ownBlock = some k ∨ w'.heap.size ≤ k) → K (a.put o.dst v') w1) :
    if Region.wanted o (yielded ops a.tmps) = true then Oper.wp P o a (w'.alloc (.cells news.toArray te)) K Q else E := by
  have hw : Region.wanted o (yielded ops a.tmps) = true := by simp [Region.wanted, hgd]
  rw [if_pos hw]
  obtain ⟨i, hi1, hz0, hz1, hz2⟩ := info_parts hi
  obtain ⟨v', w1, hr, h2, h3, h4, h5⟩ := run_append_own_at (P := P) (w'.alloc (.cells news.toArray te)) base t o.type e i z size bytes ht hi1 hz0 hz1 hz2 hzs hsz v n xs (hown.alloc _) ⟨g, 0, none⟩ m c news hl (new_cells hg news) h1 h63 hbytes (by simp; omega)
  unfold Oper.wp execOp
  simp only [ho, resolve, invoke, builtin, Sem.run_bind, Sem.run_pure, Result.andThen_ok, List.map_toArray, List.map_cons, List.map_nil, hs, hx, hr]
  refine h v' w1 h2 ?_ fun k hk => ?_
  · have h6 : Chg v.ownBlock.toList (w'.alloc (.cells news.toArray te)) w1 := ⟨h3.os, h3.tape, h3.output, h3.size, fun k hk hx => h3.block k hk fun e => hx (by rw [← e]; simp)⟩
    exact (Chg.of_nw ((Nw.refl w').alloc _)).trans h6
  · rcases h5 with e | e
    · left; rw [← e]; exact hk
    · right; rw [hk] at e; injection e with e; simp at e; omega
/-- How many calls each thread has performed. -/
def cntL (h : List Cl) (n : Nat) : List Value := (List.range n).map fun (t : Nat) => Value.int .i64 (((ofT (t : Int) h).length : Nat) : Int)
theorem cntL_len (h : List Cl) (n : Nat) : (cntL h n).length = n := by simp [cntL]
theorem cntL_get {h : List Cl} {n t : Nat} (ht : t < n) : (cntL h n)[t]? = some (.int .i64 (((ofT (t : Int) h).length : Nat) : Int)) := by
  unfold cntL; rw [List.getElem?_map, List.getElem?_range ht]; rfl
theorem cntL_snoc {h : List Cl} {n t : Nat} {x : Cl} (hx : x.th = (t : Int)) (ht : t < n) : (cntL h n).set t (.int .i64 ((((ofT (t : Int) h).length : Nat) : Int) + 1)) = cntL (h ++ [x]) n := by
  apply List.ext_getElem?
  intro i
  by_cases hi : i < n
  · rw [cntL_get hi]
    by_cases e : t = i
    · subst e
      rw [List.getElem?_set_self (by rw [cntL_len]; exact ht)]
      unfold ofT
      rw [List.filter_append, List.filter_cons_of_pos (by rw [hx]; simp)]
      simp
    · rw [List.getElem?_set_ne e, cntL_get hi]
      unfold ofT
      rw [List.filter_append, List.length_append]
      rw [List.filter_cons_of_neg (by rw [hx]; simp; omega)]; simp
  · rw [List.getElem?_eq_none (by rw [List.length_set, cntL_len]; omega), List.getElem?_eq_none (by rw [cntL_len]; omega)]
/-- make([]int, n). -/
theorem make_ints (w : World) (n : Nat) (hn : n ≤ 1000) : ∃ w', (Instr.makeSlice 29 (.int .i64 (n : Int)) (.int .i64 (n : Int))).run Tryz.prog w = .ok (.slice (some ⟨w.heap.size, 0, none⟩) n n) w' ∧ w'.ownsRow w.heap.size 3 1 (.slice (some ⟨w.heap.size, 0, none⟩) n n) n (cntL [] n) ∧ Nw w w' := by
  obtain ⟨i, hi1, hz0, hz1, hz2⟩ := info_parts intInfo
  obtain ⟨w', h1, h2, h3⟩ := run_make_full w w.heap.size 29 3 i (.int .i64 0) 1 Tryz.underlying29 hi1 hz0 hz1 .i64 .i64 n (by rw [hz2]; omega) (by unfold maxLen; omega) (Nat.le_refl _)
  refine ⟨w', h1, ?_, .of h3⟩
  have e : (madeCells (Value.int .i64 0).cells (n * 1)).toList = cntL [] n := by
    have : (madeCells (Value.int .i64 0).cells (n * 1)).toList = List.replicate (n * 1) (.int .i64 0) := toList_madeCells_one _ _
    rw [this]
    apply List.ext_getElem?
    intro j
    by_cases hj : j < n
    · rw [cntL_get hj, List.getElem?_replicate, if_pos (by omega)]; rfl
    · rw [List.getElem?_eq_none (by simp; omega), List.getElem?_eq_none (by rw [cntL_len]; omega)]
  rw [e] at h2
  exact h2
/-- The state of the law's loop: a model, the row of calls, the counts, apart from each other. -/
structure AS (w : World) (gm gc nt : Nat) (s : Md) (N : Nat) (v : Value) (h hc : List Cl) (p : Pl) (W : World) : Prop where
  gm : p.gm = gm
  at_ : MAt W p s
  ok : s.Ok N
  foot : ∀ g ∈ p.foot, w.heap.size ≤ g
  nw : Nw w W
  row : OwnC W w.heap.size v h
  cnt : W.ownsRow w.heap.size 3 1 (.slice (some ⟨gc, 0, none⟩) nt nt) nt (cntL hc nt)
  gcf : gc ∉ p.foot
  rv : ∀ g, v.ownBlock = some g → g ∉ p.foot ∧ g ≠ gc
section
variable {w W W' : World} {gm gc nt N : Nat} {s s' : Md} {v : Value} {h hc : List Cl} {p p' : Pl}
theorem AS.gct (H : AS w gm gc nt s N v h hc p W) : gc < W.heap.size := (World.ownsRow.lt H.cnt gc rfl).2
theorem AS.grow (H : AS w gm gc nt s N v h hc p W) (hn : Nw W W') : AS w gm gc nt s N v h hc p W' :=
  { H with at_ := H.at_.nw hn, nw := H.nw.trans hn, row := own_nw H.row hn, cnt := own_nw H.cnt hn }
theorem AS.up (H : AS w gm gc nt s N v h hc p W) (hu : MUp W p s' p' W') {N' : Nat} (hok : s'.Ok N') : AS w gm gc nt s' N' v h hc p' W' where
  gm := hu.gm.trans H.gm
  at_ := hu.at'
  ok := hok
  foot := fun g hg => (hu.mv g hg).elim (H.foot g) (fun h => Nat.le_trans H.nw.grown.size h)
  nw := nw_chg2 H.nw hu.chg H.foot
  row := own_chg H.row hu.chg (fun g hg => (H.rv g hg).1)
  cnt := own_chg H.cnt hu.chg (fun g hg => by cases hg; exact H.gcf)
  gcf := fun hg => (hu.mv gc hg).elim H.gcf (fun h => by have := H.gct; omega)
  rv := fun g hg => ⟨fun hf => (hu.mv g hf).elim (H.rv g hg).1 (fun h => by have := (World.ownsRow.lt H.row g hg).2; omega), (H.rv g hg).2⟩
theorem AS.push (H : AS w gm gc nt s N v h hc p W) {v' : Value} {h' : List Cl} (hr : OwnC W' w.heap.size v' h') (hch : Chg v.ownBlock.toList W W') (hm : ∀ k, v'.ownBlock = some k → v.ownBlock = some k ∨ W.heap.size ≤ k) : AS w gm gc nt s N v' h' hc p W' where
  gm := H.gm
  at_ := H.at_.chg hch (fun g hg e => by rw [Option.mem_toList] at e; exact (H.rv g e).1 hg)
  ok := H.ok
  foot := H.foot
  nw := nw_chg2 H.nw hch (fun g hg => by rw [Option.mem_toList] at hg; exact (World.ownsRow.lt H.row g hg).1)
  row := hr
  cnt := own_chg H.cnt hch (fun g hg e => by cases hg; rw [Option.mem_toList] at e; exact (H.rv gc e).2 rfl)
  gcf := H.gcf
  rv := fun g hg => by
    rcases hm g hg with e | e
    · exact H.rv g e
    · exact ⟨fun hf => by have := H.at_.lt hf; omega, by have := H.gct; omega⟩
theorem AS.count (H : AS w gm gc nt s N v h hc p W) {t : Nat} {x : Cl} (ht : t < nt) (hx : x.th = (t : Int)) : AS w gm gc nt s N v h (hc ++ [x]) p (W.setCell ⟨gc, t, none⟩ (.int .i64 ((((ofT (t : Int) hc).length : Nat) : Int) + 1))) := by
  have hch : Chg [gc] W (W.setCell ⟨gc, t, none⟩ (.int .i64 ((((ofT (t : Int) hc).length : Nat) : Int) + 1))) := Chg.set1 W gc t _
  have h2 := (H.cnt.stored t (.int .i64 ((((ofT (t : Int) hc).length : Nat) : Int) + 1))).1
  rw [cntL_snoc hx ht] at h2
  exact { gm := H.gm, at_ := H.at_.chg hch (fun g hg e => by simp at e; subst e; exact H.gcf hg), ok := H.ok, foot := H.foot
          nw := nw_chg2 H.nw hch (fun g hg => by simp at hg; subst hg; exact (World.ownsRow.lt H.cnt _ rfl).1)
          row := own_chg H.row hch (fun g hg e => by simp at e; exact (H.rv g hg).2 e)
          cnt := h2, gcf := H.gcf, rv := H.rv }
theorem AS.cell (H : AS w gm gc nt s N v h hc p W) {t : Nat} (ht : t < nt) : W.cell? ⟨gc, t, none⟩ = some (.int .i64 (((ofT (t : Int) hc).length : Nat) : Int)) := by
  have := World.ownsRow.cellAt H.cnt t (by omega)
  rw [this]
  exact cntL_get ht
theorem AS.frozen (H : AS w gm gc nt s N v h hc p W) (t : Nat) : W.frozen? ⟨gc, t, none⟩ = false := World.ownsRow.frozenAt H.cnt _
end
/-- What Do leaves, in the law's state. -/
def DoP (w : World) (gm gc nt : Nat) (r : Rs) (s' : Md) (N : Nat) (v : Value) (h hc : List Cl) (e : Ending) (W' : World) : Prop :=
  e = .returned (.agg #[.int .i64 r.err, .bool r.fd, .int .u64 r.key, .int .u64 r.val, .int .i64 r.cnt]) ∧ ∃ p', AS w gm gc nt s' N v h hc p' W'
theorem do_AS {w W : World} {gm gc nt N : Nat} {s : Md} {v : Value} {h hc : List Cl} {p : Pl} (H : AS w gm gc nt s N v h hc p W) (hN : N ≤ 500000) (t : Int) (o : Ox) (hw : o.Wf) :
    Calls Tryz.prog 10 #[.pointer (some ⟨gm, 0, none⟩), .int .i64 t, .agg #[.int .u8 o.k, .int .u64 o.key, .int .u64 o.hi, .int .u64 o.val, .int .u64 o.old, .int .u64 o.by_, .int .u64 o.draw]] W (DoP w gm gc nt (doM s t o).1 (doM s t o).2 (N + 1) v h hc) := by
  have h1 := do_any W p s H.at_ H.ok hN t o hw
  rw [H.gm] at h1
  refine Calls.mono h1 ?_
  rintro e W' ⟨rfl, p', hu⟩
  exact ⟨rfl, p', H.up hu (doM_ok H.ok t hw)⟩
end Go.Proofs.YtfnapkfdocabcaaGreat
