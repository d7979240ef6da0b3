import Derived.Test.YtnfpicnigfmbdaaGreatDoorGPl
set_option linter.unusedVariables false
set_option linter.unusedSimpArgs false
set_option linter.unnecessarySimpa false
namespace Go.Proofs.YtnfpicnigfmbdaaGreatDoor
open Go.RowKit Go.Xt
/-! The model at any threads: what it is in memory. -/
/-- A thread: its iterator (open, more, what is left), its session. -/
structure Th where
  op : Bool
  mo : Bool
  lo : Int
  hi : Int
  se : Bool
deriving DecidableEq
def thc (x : Th) : List Value := [.bool x.op, .bool x.mo, .int .u64 x.lo, .int .u64 x.hi, .bool x.se]
def tcells (l : List Th) : List Value := l.flatMap thc
theorem tcells_len (l : List Th) : (tcells l).length = l.length * 5 := by
  induction l with
  | nil => rfl
  | cons x l ih => rw [tcells, List.flatMap_cons, List.length_append, ← tcells, ih, List.length_cons]; simp [thc]; omega
theorem tcells_cons (x : Th) (l : List Th) (k j : Nat) : (tcells (x :: l))[(k + 1) * 5 + j]? = (tcells l)[k * 5 + j]? := by
  rw [show (k + 1) * 5 + j = (k * 5 + j) + 5 by omega]; rfl
theorem tcells_get : ∀ (l : List Th) (k : Nat) (x : Th), l[k]? = some x → (tcells l)[k * 5]? = some (.bool x.op) ∧ (tcells l)[k * 5 + 1]? = some (.bool x.mo) ∧ (tcells l)[k * 5 + 2]? = some (.int .u64 x.lo) ∧ (tcells l)[k * 5 + 3]? = some (.int .u64 x.hi) ∧ (tcells l)[k * 5 + 4]? = some (.bool x.se)
  | [], k, s, h => by simp at h
  | x :: b, 0, s, h => by simp at h; subst h; exact ⟨rfl, rfl, rfl, rfl, rfl⟩
  | x :: b, k + 1, s, h => by
    have h2 := tcells_get b k s (by simpa using h)
    exact ⟨(tcells_cons x b k 0).trans h2.1, (tcells_cons x b k 1).trans h2.2.1, (tcells_cons x b k 2).trans h2.2.2.1, (tcells_cons x b k 3).trans h2.2.2.2.1, (tcells_cons x b k 4).trans h2.2.2.2.2⟩
theorem tcells_setj (j : Nat) (hj : j < 5) (f : Th → Th) (v : Value) (hf : ∀ x, thc (f x) = (thc x).set j v) : ∀ (l : List Th) (k : Nat) (x : Th), l[k]? = some x → tcells (l.set k (f x)) = (tcells l).set (k * 5 + j) v
  | [], k, s, h => by simp at h
  | x :: b, 0, s, h => by
    simp at h; subst h
    show thc (f x) ++ tcells b = (thc x ++ tcells b).set (0 * 5 + j) v
    rw [hf, List.set_append_left _ _ (by simp [thc]; omega)]; simp
  | x :: b, k + 1, s, h => by
    have h2 := tcells_setj j hj f v hf b k s (by simpa using h)
    show thc x ++ tcells (b.set k (f s)) = (thc x ++ tcells b).set ((k + 1) * 5 + j) v
    rw [h2, List.set_append_right _ _ (by simp [thc]; omega)]
    congr 2; simp [thc]; omega
/-- The row of the threads. -/
def ThR (W : World) (gt : Nat) (th : List Th) : Prop := ∃ c, W.ownsRow 0 130 5 (.slice (some ⟨gt, 0, none⟩) th.length c) th.length (tcells th)
theorem ThR.setj {W : World} {gt : Nat} {th : List Th} (h : ThR W gt th) {k : Nat} {x : Th} (hk : th[k]? = some x) (j : Nat) (hj : j < 5) (f : Th → Th) (v : Value) (hf : ∀ x, thc (f x) = (thc x).set j v) : ThR (W.setCell ⟨gt, k * 5 + j, none⟩ v) gt (th.set k (f x)) := by
  obtain ⟨c, h⟩ := h
  have h2 := (h.stored (k * 5 + j) v).1
  rw [← tcells_setj j hj f v hf th k x hk] at h2
  refine ⟨c, ?_⟩
  rw [List.length_set]; exact h2
theorem ThR.inn {W : World} {gt : Nat} {th : List Th} (h : ThR W gt th) : gt < W.heap.size := by
  obtain ⟨c, h⟩ := h; exact (World.ownsRow.lt h gt rfl).2
theorem ThR.frozen {W : World} {gt : Nat} {th : List Th} (h : ThR W gt th) (o : Nat) : W.frozen? ⟨gt, o, none⟩ = false := by
  obtain ⟨c, h⟩ := h; exact World.ownsRow.frozenAt h _
theorem ThR.op {W : World} {gt : Nat} {th : List Th} (h : ThR W gt th) {k : Nat} {x : Th} (hk : th[k]? = some x) (v : Bool) : ThR (W.setCell ⟨gt, k * 5, none⟩ (.bool v)) gt (th.set k { x with op := v }) := h.setj hk 0 (by omega) (fun x => { x with op := v }) _ (fun _ => rfl)
theorem ThR.mo {W : World} {gt : Nat} {th : List Th} (h : ThR W gt th) {k : Nat} {x : Th} (hk : th[k]? = some x) (v : Bool) : ThR (W.setCell ⟨gt, k * 5 + 1, none⟩ (.bool v)) gt (th.set k { x with mo := v }) := h.setj hk 1 (by omega) (fun x => { x with mo := v }) _ (fun _ => rfl)
theorem ThR.lo {W : World} {gt : Nat} {th : List Th} (h : ThR W gt th) {k : Nat} {x : Th} (hk : th[k]? = some x) (v : Int) : ThR (W.setCell ⟨gt, k * 5 + 2, none⟩ (.int .u64 v)) gt (th.set k { x with lo := v }) := h.setj hk 2 (by omega) (fun x => { x with lo := v }) _ (fun _ => rfl)
theorem ThR.hi {W : World} {gt : Nat} {th : List Th} (h : ThR W gt th) {k : Nat} {x : Th} (hk : th[k]? = some x) (v : Int) : ThR (W.setCell ⟨gt, k * 5 + 3, none⟩ (.int .u64 v)) gt (th.set k { x with hi := v }) := h.setj hk 3 (by omega) (fun x => { x with hi := v }) _ (fun _ => rfl)
theorem ThR.se {W : World} {gt : Nat} {th : List Th} (h : ThR W gt th) {k : Nat} {x : Th} (hk : th[k]? = some x) (v : Bool) : ThR (W.setCell ⟨gt, k * 5 + 4, none⟩ (.bool v)) gt (th.set k { x with se := v }) := h.setj hk 4 (by omega) (fun x => { x with se := v }) _ (fun _ => rfl)
theorem set_at {α : Type} {l : List α} {k : Nat} {x : α} (h : l[k]? = some x) (y : α) : (l.set k y)[k]? = some y := by
  rw [List.getElem?_set_self (List.getElem?_eq_some_iff.1 h).1]
theorem ThR.lt {W : World} {gt : Nat} {th : List Th} (h : ThR W gt th) {k : Nat} {x : Th} (_hk : th[k]? = some x) : gt < W.heap.size := h.inn
theorem ThR.cells {W : World} {gt : Nat} {th : List Th} (h : ThR W gt th) {k : Nat} {x : Th} (hk : th[k]? = some x) :
    W.cell? ⟨gt, k * 5, none⟩ = some (.bool x.op) ∧ W.cell? ⟨gt, k * 5 + 1, none⟩ = some (.bool x.mo) ∧ W.cell? ⟨gt, k * 5 + 2, none⟩ = some (.int .u64 x.lo) ∧ W.cell? ⟨gt, k * 5 + 3, none⟩ = some (.int .u64 x.hi) ∧ W.cell? ⟨gt, k * 5 + 4, none⟩ = some (.bool x.se) := by
  obtain ⟨p, _⟩ := List.getElem?_eq_some_iff.1 hk
  obtain ⟨c, h⟩ := h
  obtain ⟨g0, g1, g2, g3, g4⟩ := tcells_get th k x hk
  have hl := tcells_len th
  exact ⟨(World.ownsRow.cellAt h _ (by omega)).trans g0, (World.ownsRow.cellAt h _ (by omega)).trans g1, (World.ownsRow.cellAt h _ (by omega)).trans g2, (World.ownsRow.cellAt h _ (by omega)).trans g3, (World.ownsRow.cellAt h _ (by omega)).trans g4⟩
theorem ThR.chg {W W' : World} {gt : Nat} {th : List Th} {X : List Nat} (h : ThR W gt th) (hc : Chg X W W') (hx : gt ∉ X) : ThR W' gt th := by
  obtain ⟨c, h⟩ := h; exact ⟨c, own_chg h hc (fun g hg => by cases hg; exact hx)⟩
theorem ThR.nw {W W' : World} {gt : Nat} {th : List Th} (h : ThR W gt th) (hn : Nw W W') : ThR W' gt th := by
  obtain ⟨c, h⟩ := h; exact ⟨c, own_nw h hn⟩
/-- Where a model lies: itself, its threads, its map, the map's slice. -/
structure Pl where
  gm : Nat
  gt : Nat
  gp : Nat
  v : Value
def Pl.foot (p : Pl) : List Nat := p.gm :: p.gt :: Go.Proofs.YtnfpicnigfmbdaaGreatDoor.foot p.gp p.v
theorem Pl.mem {p : Pl} {g : Nat} : g ∈ p.foot ↔ g = p.gm ∨ g = p.gt ∨ g = p.gp ∨ p.v.ownBlock = some g := by
  simp [Pl.foot, mem_foot]
/-- A model's state. -/
structure Md where
  slots : Int
  l : List (Int × Int)
  th : List Th
structure MAt (W : World) (p : Pl) (s : Md) : Prop where
  m0 : W.cell? ⟨p.gm, 0, none⟩ = some (.int .i64 s.slots)
  m1 : W.cell? ⟨p.gm, 1, none⟩ = some (.pointer (some ⟨p.gp, 0, none⟩))
  m2 : ∃ c, W.cell? ⟨p.gm, 2, none⟩ = some (.slice (some ⟨p.gt, 0, none⟩) s.th.length c)
  mz : ∀ o, W.frozen? ⟨p.gm, o, none⟩ = false
  th : ThR W p.gt s.th
  om : OM W p.gp p.v s.l
  nmt : p.gm ≠ p.gt
  nmp : p.gm ≠ p.gp
  ntp : p.gt ≠ p.gp
  nmv : p.v.ownBlock ≠ some p.gm
  ntv : p.v.ownBlock ≠ some p.gt
theorem MAt.im {W : World} {p : Pl} {s : Md} (h : MAt W p s) : p.gm < W.heap.size := World.block_lt_of_cell? W _ h.m0
theorem MAt.it {W : World} {p : Pl} {s : Md} (h : MAt W p s) : p.gt < W.heap.size := h.th.inn
theorem MAt.lt {W : World} {p : Pl} {s : Md} (h : MAt W p s) {g : Nat} (hg : g ∈ p.foot) : g < W.heap.size := by
  rcases Pl.mem.1 hg with rfl | rfl | rfl | h1
  · exact h.im
  · exact h.it
  · exact h.om.lt
  · exact h.om.rlt h1
theorem MAt.chg {W W' : World} {p : Pl} {s : Md} {X : List Nat} (h : MAt W p s) (hc : Chg X W W') (hx : ∀ g ∈ p.foot, g ∉ X) : MAt W' p s :=
  { h with
    m0 := hc.cell h.m0 (hx _ (Pl.mem.2 (.inl rfl)))
    m1 := hc.cell h.m1 (hx _ (Pl.mem.2 (.inl rfl)))
    m2 := h.m2.imp fun _ e => hc.cell e (hx _ (Pl.mem.2 (.inl rfl)))
    mz := fun o => (hc.frozen h.im (hx _ (Pl.mem.2 (.inl rfl)))).trans (h.mz o)
    th := h.th.chg hc (hx _ (Pl.mem.2 (.inr (.inl rfl))))
    om := h.om.chg hc (hx _ (Pl.mem.2 (.inr (.inr (.inl rfl))))) (fun g hg => hx _ (Pl.mem.2 (.inr (.inr (.inr hg))))) }
theorem MAt.nw {W W' : World} {p : Pl} {s : Md} (h : MAt W p s) (hn : Nw W W') : MAt W' p s := h.chg (Chg.of_nw hn : Chg [] W W') (by simp)
/-- A model that has been worked on. -/
structure MUp (w : World) (p : Pl) (s : Md) (p' : Pl) (w' : World) : Prop where
  at' : MAt w' p' s
  chg : Chg p.foot w w'
  mv : ∀ y ∈ p'.foot, y ∈ p.foot ∨ w.heap.size ≤ y
  gm : p'.gm = p.gm
theorem MUp.same {w w' : World} {p : Pl} {s : Md} (h : MAt w p s) (hn : Nw w w') : MUp w p s p w' := ⟨h.nw hn, Chg.of_nw hn, fun y hy => .inl hy, rfl⟩
theorem MUp.after {w w2 w' : World} {p p' : Pl} {s : Md} (hn : Nw w w2) (h : MUp w2 p s p' w') : MUp w p s p' w' :=
  ⟨h.at', (Chg.of_nw hn).trans h.chg, fun y hy => (h.mv y hy).imp id fun h => Nat.le_trans hn.grown.size h, h.gm⟩
theorem MUp.nw {w w2 w' : World} {p p' : Pl} {s : Md} (h : MUp w p s p' w2) (hn : Nw w2 w') : MUp w p s p' w' :=
  ⟨h.at'.nw hn, h.chg.trans (Chg.of_nw hn), h.mv, h.gm⟩
theorem MUp.trans {w w1 w2 : World} {p p1 p2 : Pl} {s1 s2 : Md} (h : MUp w p s1 p1 w1) (k : MUp w1 p1 s2 p2 w2) : MUp w p s2 p2 w2 := by
  refine ⟨k.at', h.chg.then k.chg h.mv, fun y hy => ?_, k.gm.trans h.gm⟩
  rcases k.mv y hy with h1 | h1
  · exact h.mv y h1
  · exact .inr (Nat.le_trans h.chg.size h1)
/-- Stores into new memory after a change: they do not matter. -/
theorem MUp.new {w w2 w' : World} {p p' : Pl} {s : Md} {X : List Nat} (h : MUp w p s p' w2) (hc : Chg X w2 w') (hx : ∀ g ∈ X, w.heap.size ≤ g) (hd : ∀ g ∈ p'.foot, g ∉ X) : MUp w p s p' w' :=
  ⟨h.at'.chg hc hd, ⟨hc.os.trans h.chg.os, hc.tape.trans h.chg.tape, hc.output.trans h.chg.output, Nat.le_trans h.chg.size hc.size, fun k hk hk2 => (hc.block k (Nat.lt_of_lt_of_le hk h.chg.size) (fun e => by have := hx k e; omega)).trans (h.chg.block k hk hk2)⟩, h.mv, h.gm⟩
/-- The map has been worked on. -/
theorem MUp.map {w w' : World} {p : Pl} {s : Md} {l : List (Int × Int)} {v' : Value} (h : MAt w p s) (hu : Upd w p.gp p.v l v' w') : MUp w p { s with l := l } { p with v := v' } w' := by
  have hf : ∀ g, g ∈ foot p.gp p.v → g ∈ p.foot := fun g hg => by simp [Pl.foot, hg]
  have hmf : p.gm ∉ foot p.gp p.v := fun e => by
    rcases mem_foot.1 e with e | e
    · exact h.nmp e
    · exact h.nmv e
  have htf : p.gt ∉ foot p.gp p.v := fun e => by
    rcases mem_foot.1 e with e | e
    · exact h.ntp e
    · exact h.ntv e
  refine ⟨⟨hu.chg.cell h.m0 hmf, hu.chg.cell h.m1 hmf, h.m2.imp (fun _ e => hu.chg.cell e hmf), fun o => (hu.chg.frozen h.im hmf).trans (h.mz o), h.th.chg hu.chg htf, hu.om, h.nmt, h.nmp, h.ntp, ?_, ?_⟩, hu.chg.wide hf, ?_, rfl⟩
  · rcases hu.moved with e | ⟨q, e, hq⟩
    · show v'.ownBlock ≠ _; rw [e]; exact h.nmv
    · show v'.ownBlock ≠ _; rw [e]; intro he; cases he; have := h.im; simp at hq; omega
  · rcases hu.moved with e | ⟨q, e, hq⟩
    · show v'.ownBlock ≠ _; rw [e]; exact h.ntv
    · show v'.ownBlock ≠ _; rw [e]; intro he; cases he; have := h.it; simp at hq; omega
  · intro y hy
    rcases Pl.mem.1 hy with rfl | rfl | rfl | h1
    · exact .inl (Pl.mem.2 (.inl rfl))
    · exact .inl (Pl.mem.2 (.inr (.inl rfl)))
    · exact .inl (Pl.mem.2 (.inr (.inr (.inl rfl))))
    · have h1 : v'.ownBlock = some y := h1
      rcases hu.moved with e | ⟨q, e, hq⟩
      · exact .inl (Pl.mem.2 (.inr (.inr (.inr (e ▸ h1)))))
      · rw [e] at h1; cases h1; exact .inr hq
/-- The threads have been worked on. -/
theorem MUp.ths {w w' : World} {p : Pl} {s : Md} {th' : List Th} (h : MAt w p s) (hl : th'.length = s.th.length) (hr : ThR w' p.gt th') (hc : Chg [p.gt] w w') : MUp w p { s with th := th' } p w' := by
  have hmf : p.gm ∉ [p.gt] := by simpa using h.nmt
  refine ⟨⟨hc.cell h.m0 hmf, hc.cell h.m1 hmf, h.m2.imp (fun c e => by show w'.cell? _ = some (.slice _ th'.length c); rw [hl]; exact hc.cell e hmf), fun o => (hc.frozen h.im hmf).trans (h.mz o), hr, h.om.chg hc (by have := h.ntp; simp; omega) (fun g hg => by have := h.ntv; simp; rintro rfl; exact this hg), h.nmt, h.nmp, h.ntp, h.nmv, h.ntv⟩, hc.wide (fun y hy => by simp at hy; subst hy; exact Pl.mem.2 (.inr (.inl rfl))), fun y hy => .inl hy, rfl⟩
end Go.Proofs.YtnfpicnigfmbdaaGreatDoor
namespace Go.Proofs.YtnfpicnigfmbdaaGreatDoor
open Go.RowKit Go.Xt
/-! client.Check at any operation. -/
/-- An operation. -/
structure Ox where
  k : Int
  key : Int
  hi : Int
  val : Int
  old : Int
  by_ : Int
  draw : Int
def opV (o : Ox) : Value := op7 o.k o.key o.hi o.val o.old o.by_ o.draw
/-- Whether a kind uses a field. -/
def uK (k : Int) : Bool := decide (k = 3) || decide (k = 4) || decide (k = 5) || decide (k = 6) || decide (k = 7) || decide (k = 8) || decide (k = 9) || decide (k = 11) || decide (k = 13)
def uH (k : Int) : Bool := decide (k = 8) || decide (k = 9) || decide (k = 11)
def uV (k : Int) : Bool := decide (k = 4) || decide (k = 5) || decide (k = 7)
def uO (k : Int) : Bool := decide (k = 7)
def uB (k : Int) : Bool := decide (k = 8)
def uD (k : Int) : Bool := decide (k = 4) || decide (k = 5) || decide (k = 8)
def Ox.formed (o : Ox) : Bool := decide (1 ≤ o.k) && decide (o.k ≤ 15) && (uK o.k || decide (o.key = 0)) && (uH o.k || decide (o.hi = 0)) && (uV o.k || decide (o.val = 0)) && (uO o.k || decide (o.old = 0)) && (uB o.k || decide (o.by_ = 0)) && (uD o.k || decide (o.draw = 0))
/-- The error of an operation whatever the state is. -/
def chkO (o : Ox) : Int :=
  if o.formed = false then 2
  else if uH o.k = true ∧ o.hi < o.key ∨ o.k = 8 ∧ o.by_ = 0 then 13
  else if o.k = 8 ∧ 18446744073709551615 - o.by_ < o.hi then 12
  else 0
structure Ox.Wf (o : Ox) : Prop where
  k : 0 ≤ o.k ∧ o.k < 256
  key : 0 ≤ o.key ∧ o.key < 18446744073709551616
  hi : 0 ≤ o.hi ∧ o.hi < 18446744073709551616
  val : 0 ≤ o.val ∧ o.val < 18446744073709551616
  old : 0 ≤ o.old ∧ o.old < 18446744073709551616
  by_ : 0 ≤ o.by_ ∧ o.by_ < 18446744073709551616
  draw : 0 ≤ o.draw ∧ o.draw < 18446744073709551616
/-- Whether two operations are the same. -/
def eqB (k a b c d e f k' a' b' c' d' e' f' : Int) : Bool := decide (k = k') && (decide (a = a') && (decide (b = b') && (decide (c = c') && (decide (d = d') && (decide (e = e') && decide (f = f'))))))
@[go_sem 20000] theorem eqOpB (k a b c d e f k' a' b' c' d' e' f' : Int) (w : World) : (Op.equalIn 10000 45 (op7 k a b c d e f) (op7 k' a' b' c' d' e' f')).run Tryz.prog w = .ok (eqB k a b c d e f k' a' b' c' d' e' f') w := eqOp k a b c d e f k' a' b' c' d' e' f' w
def spE (lo hi : Int) : Int := if lo ≤ hi then 0 else 13
theorem spcheck_any (lo hi : Int) (w : World) :
    Calls Tryz.prog 113 #[spV lo hi] w fun e w' => e = .returned (.int .i64 (spE lo hi)) ∧ Nw w w' := by
  unfold spV spE
  go_enter Tryz.func113, Tryz.ntmps113
  go_wp2
  all_goals (go_ret; exact ⟨by simp [*]; try omega, (by repeat (first | exact Xt.Nw.refl _ | refine Xt.Nw.drew ?_ | refine Xt.Nw.drewN ?_ _ | refine Xt.Nw.alloc ?_ _ | refine Xt.Nw.joined ?_ | refine Xt.Nw.drewd ?_ | refine Xt.Nw.drewdN ?_ | refine Xt.Nw.ext ?_ | refine Xt.Nw.ext_some ?_ (by assumption) | refine Xt.Nw.setCell ?_ (by simp [go_sem] <;> omega) _))⟩)
set_option maxRecDepth 20000 in
set_option maxHeartbeats 4000000 in
theorem ccheck_1 (a b c d e f : Int) (w : World) : Calls Tryz.prog 81 #[op7 1 a b c d e f] w fun r w' => r = .returned (.int .i64 (if eqB 1 0 0 0 0 0 0 1 a b c d e f = false then (2 : Int) else 0)) ∧ Nw w w' := by
  obtain ⟨B, hB⟩ : ∃ B, B = eqB 1 0 0 0 0 0 0 1 a b c d e f := ⟨_, rfl⟩
  obtain ⟨R, hR⟩ : ∃ R, R = (if eqB 1 0 0 0 0 0 0 1 a b c d e f = false then (2 : Int) else 0) := ⟨_, rfl⟩
  rw [← hR]
  rw [← hB] at hR
  have HR := Lib.hid hR
  have hB' := hB.symm
  clear hR hB
  go_enter Tryz.func81, Tryz.ntmps81
  go_wp2
  all_goals (go_ret; refine ⟨?_, (by repeat (first | exact Xt.Nw.refl _ | refine Xt.Nw.drew ?_ | refine Xt.Nw.drewN ?_ _ | refine Xt.Nw.alloc ?_ _ | refine Xt.Nw.joined ?_ | refine Xt.Nw.drewd ?_ | refine Xt.Nw.drewdN ?_ | refine Xt.Nw.ext ?_ | refine Xt.Nw.ext_some ?_ (by assumption) | refine Xt.Nw.setCell ?_ (by simp [go_sem] <;> omega) _))⟩; have := HR.out; simp_all)
set_option maxRecDepth 20000 in
set_option maxHeartbeats 4000000 in
theorem ccheck_2 (a b c d e f : Int) (w : World) : Calls Tryz.prog 81 #[op7 2 a b c d e f] w fun r w' => r = .returned (.int .i64 (if eqB 2 0 0 0 0 0 0 2 a b c d e f = false then (2 : Int) else 0)) ∧ Nw w w' := by
  obtain ⟨B, hB⟩ : ∃ B, B = eqB 2 0 0 0 0 0 0 2 a b c d e f := ⟨_, rfl⟩
  obtain ⟨R, hR⟩ : ∃ R, R = (if eqB 2 0 0 0 0 0 0 2 a b c d e f = false then (2 : Int) else 0) := ⟨_, rfl⟩
  rw [← hR]
  rw [← hB] at hR
  have HR := Lib.hid hR
  have hB' := hB.symm
  clear hR hB
  go_enter Tryz.func81, Tryz.ntmps81
  go_wp2
  all_goals (go_ret; refine ⟨?_, (by repeat (first | exact Xt.Nw.refl _ | refine Xt.Nw.drew ?_ | refine Xt.Nw.drewN ?_ _ | refine Xt.Nw.alloc ?_ _ | refine Xt.Nw.joined ?_ | refine Xt.Nw.drewd ?_ | refine Xt.Nw.drewdN ?_ | refine Xt.Nw.ext ?_ | refine Xt.Nw.ext_some ?_ (by assumption) | refine Xt.Nw.setCell ?_ (by simp [go_sem] <;> omega) _))⟩; have := HR.out; simp_all)
set_option maxRecDepth 20000 in
set_option maxHeartbeats 4000000 in
theorem ccheck_3 (a b c d e f : Int) (w : World) : Calls Tryz.prog 81 #[op7 3 a b c d e f] w fun r w' => r = .returned (.int .i64 (if eqB 3 a 0 0 0 0 0 3 a b c d e f = false then (2 : Int) else 0)) ∧ Nw w w' := by
  obtain ⟨B, hB⟩ : ∃ B, B = eqB 3 a 0 0 0 0 0 3 a b c d e f := ⟨_, rfl⟩
  obtain ⟨R, hR⟩ : ∃ R, R = (if eqB 3 a 0 0 0 0 0 3 a b c d e f = false then (2 : Int) else 0) := ⟨_, rfl⟩
  rw [← hR]
  rw [← hB] at hR
  have HR := Lib.hid hR
  have hB' := hB.symm
  clear hR hB
  go_enter Tryz.func81, Tryz.ntmps81
  go_wp2
  all_goals (go_ret; refine ⟨?_, (by repeat (first | exact Xt.Nw.refl _ | refine Xt.Nw.drew ?_ | refine Xt.Nw.drewN ?_ _ | refine Xt.Nw.alloc ?_ _ | refine Xt.Nw.joined ?_ | refine Xt.Nw.drewd ?_ | refine Xt.Nw.drewdN ?_ | refine Xt.Nw.ext ?_ | refine Xt.Nw.ext_some ?_ (by assumption) | refine Xt.Nw.setCell ?_ (by simp [go_sem] <;> omega) _))⟩; have := HR.out; simp_all)
set_option maxRecDepth 20000 in
set_option maxHeartbeats 4000000 in
theorem ccheck_4 (a b c d e f : Int) (w : World) : Calls Tryz.prog 81 #[op7 4 a b c d e f] w fun r w' => r = .returned (.int .i64 (if eqB 4 a 0 c 0 0 f 4 a b c d e f = false then (2 : Int) else 0)) ∧ Nw w w' := by
  obtain ⟨B, hB⟩ : ∃ B, B = eqB 4 a 0 c 0 0 f 4 a b c d e f := ⟨_, rfl⟩
  obtain ⟨R, hR⟩ : ∃ R, R = (if eqB 4 a 0 c 0 0 f 4 a b c d e f = false then (2 : Int) else 0) := ⟨_, rfl⟩
  rw [← hR]
  rw [← hB] at hR
  have HR := Lib.hid hR
  have hB' := hB.symm
  clear hR hB
  go_enter Tryz.func81, Tryz.ntmps81
  go_upto_region 9 with (fail)
  go_region
  go_wp2
  all_goals (go_ret; refine ⟨?_, (by repeat (first | exact Xt.Nw.refl _ | refine Xt.Nw.drew ?_ | refine Xt.Nw.drewN ?_ _ | refine Xt.Nw.alloc ?_ _ | refine Xt.Nw.joined ?_ | refine Xt.Nw.drewd ?_ | refine Xt.Nw.drewdN ?_ | refine Xt.Nw.ext ?_ | refine Xt.Nw.ext_some ?_ (by assumption) | refine Xt.Nw.setCell ?_ (by simp [go_sem] <;> omega) _))⟩; have := HR.out; simp_all)
set_option maxRecDepth 20000 in
set_option maxHeartbeats 4000000 in
theorem ccheck_5 (a b c d e f : Int) (w : World) : Calls Tryz.prog 81 #[op7 5 a b c d e f] w fun r w' => r = .returned (.int .i64 (if eqB 5 a 0 c 0 0 f 5 a b c d e f = false then (2 : Int) else 0)) ∧ Nw w w' := by
  obtain ⟨B, hB⟩ : ∃ B, B = eqB 5 a 0 c 0 0 f 5 a b c d e f := ⟨_, rfl⟩
  obtain ⟨R, hR⟩ : ∃ R, R = (if eqB 5 a 0 c 0 0 f 5 a b c d e f = false then (2 : Int) else 0) := ⟨_, rfl⟩
  rw [← hR]
  rw [← hB] at hR
  have HR := Lib.hid hR
  have hB' := hB.symm
  clear hR hB
  go_enter Tryz.func81, Tryz.ntmps81
  go_upto_region 9 with (fail)
  go_region
  go_wp2
  all_goals (go_ret; refine ⟨?_, (by repeat (first | exact Xt.Nw.refl _ | refine Xt.Nw.drew ?_ | refine Xt.Nw.drewN ?_ _ | refine Xt.Nw.alloc ?_ _ | refine Xt.Nw.joined ?_ | refine Xt.Nw.drewd ?_ | refine Xt.Nw.drewdN ?_ | refine Xt.Nw.ext ?_ | refine Xt.Nw.ext_some ?_ (by assumption) | refine Xt.Nw.setCell ?_ (by simp [go_sem] <;> omega) _))⟩; have := HR.out; simp_all)
set_option maxRecDepth 20000 in
set_option maxHeartbeats 4000000 in
theorem ccheck_6 (a b c d e f : Int) (w : World) : Calls Tryz.prog 81 #[op7 6 a b c d e f] w fun r w' => r = .returned (.int .i64 (if eqB 6 a 0 0 0 0 0 6 a b c d e f = false then (2 : Int) else 0)) ∧ Nw w w' := by
  obtain ⟨B, hB⟩ : ∃ B, B = eqB 6 a 0 0 0 0 0 6 a b c d e f := ⟨_, rfl⟩
  obtain ⟨R, hR⟩ : ∃ R, R = (if eqB 6 a 0 0 0 0 0 6 a b c d e f = false then (2 : Int) else 0) := ⟨_, rfl⟩
  rw [← hR]
  rw [← hB] at hR
  have HR := Lib.hid hR
  have hB' := hB.symm
  clear hR hB
  go_enter Tryz.func81, Tryz.ntmps81
  go_wp2
  all_goals (go_ret; refine ⟨?_, (by repeat (first | exact Xt.Nw.refl _ | refine Xt.Nw.drew ?_ | refine Xt.Nw.drewN ?_ _ | refine Xt.Nw.alloc ?_ _ | refine Xt.Nw.joined ?_ | refine Xt.Nw.drewd ?_ | refine Xt.Nw.drewdN ?_ | refine Xt.Nw.ext ?_ | refine Xt.Nw.ext_some ?_ (by assumption) | refine Xt.Nw.setCell ?_ (by simp [go_sem] <;> omega) _))⟩; have := HR.out; simp_all)
set_option maxRecDepth 20000 in
set_option maxHeartbeats 4000000 in
theorem ccheck_7 (a b c d e f : Int) (w : World) : Calls Tryz.prog 81 #[op7 7 a b c d e f] w fun r w' => r = .returned (.int .i64 (if eqB 7 a 0 c d 0 0 7 a b c d e f = false then (2 : Int) else 0)) ∧ Nw w w' := by
  obtain ⟨B, hB⟩ : ∃ B, B = eqB 7 a 0 c d 0 0 7 a b c d e f := ⟨_, rfl⟩
  obtain ⟨R, hR⟩ : ∃ R, R = (if eqB 7 a 0 c d 0 0 7 a b c d e f = false then (2 : Int) else 0) := ⟨_, rfl⟩
  rw [← hR]
  rw [← hB] at hR
  have HR := Lib.hid hR
  have hB' := hB.symm
  clear hR hB
  go_enter Tryz.func81, Tryz.ntmps81
  go_upto_region 11 with (fail)
  go_region
  go_wp2
  all_goals (go_ret; refine ⟨?_, (by repeat (first | exact Xt.Nw.refl _ | refine Xt.Nw.drew ?_ | refine Xt.Nw.drewN ?_ _ | refine Xt.Nw.alloc ?_ _ | refine Xt.Nw.joined ?_ | refine Xt.Nw.drewd ?_ | refine Xt.Nw.drewdN ?_ | refine Xt.Nw.ext ?_ | refine Xt.Nw.ext_some ?_ (by assumption) | refine Xt.Nw.setCell ?_ (by simp [go_sem] <;> omega) _))⟩; have := HR.out; simp_all)
set_option maxRecDepth 20000 in
set_option maxHeartbeats 4000000 in
theorem ccheck_8 (a b c d e f : Int) (he : 0 ≤ e ∧ e < 18446744073709551616) (w : World) : Calls Tryz.prog 81 #[op7 8 a b c d e f] w fun r w' => r = .returned (.int .i64 (if eqB 8 a b 0 0 e f 8 a b c d e f = false then (2 : Int) else if spE a b ≠ 0 ∨ e = 0 then 13 else if 18446744073709551615 - e < b then 12 else 0)) ∧ Nw w w' := by
  have HC := Lib.hid (fun W => spcheck_any a b W)
  unfold spV at HC
  obtain ⟨z, hz⟩ : ∃ z, z = spE a b := ⟨_, rfl⟩
  obtain ⟨B, hB⟩ : ∃ B, B = eqB 8 a b 0 0 e f 8 a b c d e f := ⟨_, rfl⟩
  obtain ⟨R, hR⟩ : ∃ R, R = (if eqB 8 a b 0 0 e f 8 a b c d e f = false then (2 : Int) else if spE a b ≠ 0 ∨ e = 0 then 13 else if 18446744073709551615 - e < b then 12 else 0) := ⟨_, rfl⟩
  rw [← hR]
  rw [← hB, ← hz] at hR
  have HR := Lib.hid hR
  have hB' := hB.symm
  rw [← hz] at HC
  have q3 : IntKind.u64.wrap (18446744073709551615 - e) = 18446744073709551615 - e := by rw [IntKind.wrap_u64]; omega
  clear hR hB hz he
  go_enter Tryz.func81, Tryz.ntmps81
  go_upto_region 13 with (fail)
  go_region
  go_wp2_with (go_at_call 113; refine (HC.out _).mono ?_; rintro e w' ⟨rfl, dW, rfl⟩)
  all_goals (go_ret; refine ⟨?_, (by repeat (first | exact Xt.Nw.refl _ | refine Xt.Nw.drew ?_ | refine Xt.Nw.drewN ?_ _ | refine Xt.Nw.alloc ?_ _ | refine Xt.Nw.joined ?_ | refine Xt.Nw.drewd ?_ | refine Xt.Nw.drewdN ?_ | refine Xt.Nw.ext ?_ | refine Xt.Nw.ext_some ?_ (by assumption) | refine Xt.Nw.setCell ?_ (by simp [go_sem] <;> omega) _))⟩; have := HR.out; simp_all)
set_option maxRecDepth 20000 in
set_option maxHeartbeats 4000000 in
theorem ccheck_9 (a b c d e f : Int) (w : World) : Calls Tryz.prog 81 #[op7 9 a b c d e f] w fun r w' => r = .returned (.int .i64 (if eqB 9 a b 0 0 0 0 9 a b c d e f = false then (2 : Int) else if spE a b ≠ 0 then 13 else 0)) ∧ Nw w w' := by
  have HC := Lib.hid (fun W => spcheck_any a b W)
  unfold spV at HC
  obtain ⟨z, hz⟩ : ∃ z, z = spE a b := ⟨_, rfl⟩
  obtain ⟨B, hB⟩ : ∃ B, B = eqB 9 a b 0 0 0 0 9 a b c d e f := ⟨_, rfl⟩
  obtain ⟨R, hR⟩ : ∃ R, R = (if eqB 9 a b 0 0 0 0 9 a b c d e f = false then (2 : Int) else if spE a b ≠ 0 then 13 else 0) := ⟨_, rfl⟩
  rw [← hR]
  rw [← hB, ← hz] at hR
  have HR := Lib.hid hR
  have hB' := hB.symm
  rw [← hz] at HC
  clear hR hB hz
  go_enter Tryz.func81, Tryz.ntmps81
  go_upto_region 16 with (fail)
  go_region
  go_wp2_with (go_at_call 113; refine (HC.out _).mono ?_; rintro e w' ⟨rfl, dW, rfl⟩)
  all_goals (go_ret; refine ⟨?_, (by repeat (first | exact Xt.Nw.refl _ | refine Xt.Nw.drew ?_ | refine Xt.Nw.drewN ?_ _ | refine Xt.Nw.alloc ?_ _ | refine Xt.Nw.joined ?_ | refine Xt.Nw.drewd ?_ | refine Xt.Nw.drewdN ?_ | refine Xt.Nw.ext ?_ | refine Xt.Nw.ext_some ?_ (by assumption) | refine Xt.Nw.setCell ?_ (by simp [go_sem] <;> omega) _))⟩; have := HR.out; simp_all)
set_option maxRecDepth 20000 in
set_option maxHeartbeats 4000000 in
theorem ccheck_10 (a b c d e f : Int) (w : World) : Calls Tryz.prog 81 #[op7 10 a b c d e f] w fun r w' => r = .returned (.int .i64 (if eqB 10 0 0 0 0 0 0 10 a b c d e f = false then (2 : Int) else 0)) ∧ Nw w w' := by
  obtain ⟨B, hB⟩ : ∃ B, B = eqB 10 0 0 0 0 0 0 10 a b c d e f := ⟨_, rfl⟩
  obtain ⟨R, hR⟩ : ∃ R, R = (if eqB 10 0 0 0 0 0 0 10 a b c d e f = false then (2 : Int) else 0) := ⟨_, rfl⟩
  rw [← hR]
  rw [← hB] at hR
  have HR := Lib.hid hR
  have hB' := hB.symm
  clear hR hB
  go_enter Tryz.func81, Tryz.ntmps81
  go_wp2
  all_goals (go_ret; refine ⟨?_, (by repeat (first | exact Xt.Nw.refl _ | refine Xt.Nw.drew ?_ | refine Xt.Nw.drewN ?_ _ | refine Xt.Nw.alloc ?_ _ | refine Xt.Nw.joined ?_ | refine Xt.Nw.drewd ?_ | refine Xt.Nw.drewdN ?_ | refine Xt.Nw.ext ?_ | refine Xt.Nw.ext_some ?_ (by assumption) | refine Xt.Nw.setCell ?_ (by simp [go_sem] <;> omega) _))⟩; have := HR.out; simp_all)
set_option maxRecDepth 20000 in
set_option maxHeartbeats 4000000 in
theorem ccheck_11 (a b c d e f : Int) (w : World) : Calls Tryz.prog 81 #[op7 11 a b c d e f] w fun r w' => r = .returned (.int .i64 (if eqB 11 a b 0 0 0 0 11 a b c d e f = false then (2 : Int) else if spE a b ≠ 0 then 13 else 0)) ∧ Nw w w' := by
  have HC := Lib.hid (fun W => spcheck_any a b W)
  unfold spV at HC
  obtain ⟨z, hz⟩ : ∃ z, z = spE a b := ⟨_, rfl⟩
  obtain ⟨B, hB⟩ : ∃ B, B = eqB 11 a b 0 0 0 0 11 a b c d e f := ⟨_, rfl⟩
  obtain ⟨R, hR⟩ : ∃ R, R = (if eqB 11 a b 0 0 0 0 11 a b c d e f = false then (2 : Int) else if spE a b ≠ 0 then 13 else 0) := ⟨_, rfl⟩
  rw [← hR]
  rw [← hB, ← hz] at hR
  have HR := Lib.hid hR
  have hB' := hB.symm
  rw [← hz] at HC
  clear hR hB hz
  go_enter Tryz.func81, Tryz.ntmps81
  go_upto_region 16 with (fail)
  go_region
  go_wp2_with (go_at_call 113; refine (HC.out _).mono ?_; rintro e w' ⟨rfl, dW, rfl⟩)
  all_goals (go_ret; refine ⟨?_, (by repeat (first | exact Xt.Nw.refl _ | refine Xt.Nw.drew ?_ | refine Xt.Nw.drewN ?_ _ | refine Xt.Nw.alloc ?_ _ | refine Xt.Nw.joined ?_ | refine Xt.Nw.drewd ?_ | refine Xt.Nw.drewdN ?_ | refine Xt.Nw.ext ?_ | refine Xt.Nw.ext_some ?_ (by assumption) | refine Xt.Nw.setCell ?_ (by simp [go_sem] <;> omega) _))⟩; have := HR.out; simp_all)
set_option maxRecDepth 20000 in
set_option maxHeartbeats 4000000 in
theorem ccheck_12 (a b c d e f : Int) (w : World) : Calls Tryz.prog 81 #[op7 12 a b c d e f] w fun r w' => r = .returned (.int .i64 (if eqB 12 0 0 0 0 0 0 12 a b c d e f = false then (2 : Int) else 0)) ∧ Nw w w' := by
  obtain ⟨B, hB⟩ : ∃ B, B = eqB 12 0 0 0 0 0 0 12 a b c d e f := ⟨_, rfl⟩
  obtain ⟨R, hR⟩ : ∃ R, R = (if eqB 12 0 0 0 0 0 0 12 a b c d e f = false then (2 : Int) else 0) := ⟨_, rfl⟩
  rw [← hR]
  rw [← hB] at hR
  have HR := Lib.hid hR
  have hB' := hB.symm
  clear hR hB
  go_enter Tryz.func81, Tryz.ntmps81
  go_wp2
  all_goals (go_ret; refine ⟨?_, (by repeat (first | exact Xt.Nw.refl _ | refine Xt.Nw.drew ?_ | refine Xt.Nw.drewN ?_ _ | refine Xt.Nw.alloc ?_ _ | refine Xt.Nw.joined ?_ | refine Xt.Nw.drewd ?_ | refine Xt.Nw.drewdN ?_ | refine Xt.Nw.ext ?_ | refine Xt.Nw.ext_some ?_ (by assumption) | refine Xt.Nw.setCell ?_ (by simp [go_sem] <;> omega) _))⟩; have := HR.out; simp_all)
set_option maxRecDepth 20000 in
set_option maxHeartbeats 4000000 in
theorem ccheck_13 (a b c d e f : Int) (w : World) : Calls Tryz.prog 81 #[op7 13 a b c d e f] w fun r w' => r = .returned (.int .i64 (if eqB 13 a 0 0 0 0 0 13 a b c d e f = false then (2 : Int) else 0)) ∧ Nw w w' := by
  obtain ⟨B, hB⟩ : ∃ B, B = eqB 13 a 0 0 0 0 0 13 a b c d e f := ⟨_, rfl⟩
  obtain ⟨R, hR⟩ : ∃ R, R = (if eqB 13 a 0 0 0 0 0 13 a b c d e f = false then (2 : Int) else 0) := ⟨_, rfl⟩
  rw [← hR]
  rw [← hB] at hR
  have HR := Lib.hid hR
  have hB' := hB.symm
  clear hR hB
  go_enter Tryz.func81, Tryz.ntmps81
  go_wp2
  all_goals (go_ret; refine ⟨?_, (by repeat (first | exact Xt.Nw.refl _ | refine Xt.Nw.drew ?_ | refine Xt.Nw.drewN ?_ _ | refine Xt.Nw.alloc ?_ _ | refine Xt.Nw.joined ?_ | refine Xt.Nw.drewd ?_ | refine Xt.Nw.drewdN ?_ | refine Xt.Nw.ext ?_ | refine Xt.Nw.ext_some ?_ (by assumption) | refine Xt.Nw.setCell ?_ (by simp [go_sem] <;> omega) _))⟩; have := HR.out; simp_all)
set_option maxRecDepth 20000 in
set_option maxHeartbeats 4000000 in
theorem ccheck_14 (a b c d e f : Int) (w : World) : Calls Tryz.prog 81 #[op7 14 a b c d e f] w fun r w' => r = .returned (.int .i64 (if eqB 14 0 0 0 0 0 0 14 a b c d e f = false then (2 : Int) else 0)) ∧ Nw w w' := by
  obtain ⟨B, hB⟩ : ∃ B, B = eqB 14 0 0 0 0 0 0 14 a b c d e f := ⟨_, rfl⟩
  obtain ⟨R, hR⟩ : ∃ R, R = (if eqB 14 0 0 0 0 0 0 14 a b c d e f = false then (2 : Int) else 0) := ⟨_, rfl⟩
  rw [← hR]
  rw [← hB] at hR
  have HR := Lib.hid hR
  have hB' := hB.symm
  clear hR hB
  go_enter Tryz.func81, Tryz.ntmps81
  go_wp2
  all_goals (go_ret; refine ⟨?_, (by repeat (first | exact Xt.Nw.refl _ | refine Xt.Nw.drew ?_ | refine Xt.Nw.drewN ?_ _ | refine Xt.Nw.alloc ?_ _ | refine Xt.Nw.joined ?_ | refine Xt.Nw.drewd ?_ | refine Xt.Nw.drewdN ?_ | refine Xt.Nw.ext ?_ | refine Xt.Nw.ext_some ?_ (by assumption) | refine Xt.Nw.setCell ?_ (by simp [go_sem] <;> omega) _))⟩; have := HR.out; simp_all)
set_option maxRecDepth 20000 in
set_option maxHeartbeats 4000000 in
theorem ccheck_15 (a b c d e f : Int) (w : World) : Calls Tryz.prog 81 #[op7 15 a b c d e f] w fun r w' => r = .returned (.int .i64 (if eqB 15 0 0 0 0 0 0 15 a b c d e f = false then (2 : Int) else 0)) ∧ Nw w w' := by
  obtain ⟨B, hB⟩ : ∃ B, B = eqB 15 0 0 0 0 0 0 15 a b c d e f := ⟨_, rfl⟩
  obtain ⟨R, hR⟩ : ∃ R, R = (if eqB 15 0 0 0 0 0 0 15 a b c d e f = false then (2 : Int) else 0) := ⟨_, rfl⟩
  rw [← hR]
  rw [← hB] at hR
  have HR := Lib.hid hR
  have hB' := hB.symm
  clear hR hB
  go_enter Tryz.func81, Tryz.ntmps81
  go_wp2
  all_goals (go_ret; refine ⟨?_, (by repeat (first | exact Xt.Nw.refl _ | refine Xt.Nw.drew ?_ | refine Xt.Nw.drewN ?_ _ | refine Xt.Nw.alloc ?_ _ | refine Xt.Nw.joined ?_ | refine Xt.Nw.drewd ?_ | refine Xt.Nw.drewdN ?_ | refine Xt.Nw.ext ?_ | refine Xt.Nw.ext_some ?_ (by assumption) | refine Xt.Nw.setCell ?_ (by simp [go_sem] <;> omega) _))⟩; have := HR.out; simp_all)
set_option maxRecDepth 20000 in
set_option maxHeartbeats 4000000 in
theorem ccheck_out (k a b c d e f : Int) (h : k < 1 ∨ 15 < k) (w : World) : Calls Tryz.prog 81 #[op7 k a b c d e f] w fun e w' => e = .returned (.int .i64 2) ∧ Nw w w' := by
  have e3 : (k == 3) = false := by simp; omega
  have n3 : ¬ k = 3 := by omega
  have e4 : (k == 4) = false := by simp; omega
  have n4 : ¬ k = 4 := by omega
  have e5 : (k == 5) = false := by simp; omega
  have n5 : ¬ k = 5 := by omega
  have e6 : (k == 6) = false := by simp; omega
  have n6 : ¬ k = 6 := by omega
  have e7 : (k == 7) = false := by simp; omega
  have n7 : ¬ k = 7 := by omega
  have e8 : (k == 8) = false := by simp; omega
  have n8 : ¬ k = 8 := by omega
  have e9 : (k == 9) = false := by simp; omega
  have n9 : ¬ k = 9 := by omega
  have e11 : (k == 11) = false := by simp; omega
  have n11 : ¬ k = 11 := by omega
  have e13 : (k == 13) = false := by simp; omega
  have n13 : ¬ k = 13 := by omega
  rcases h with h | h
  · have d0 : decide (k < 1) = true := by simp; omega
    go_enter Tryz.func81, Tryz.ntmps81
    go_wp2
    go_ret
    exact ⟨rfl, (by repeat (first | exact Xt.Nw.refl _ | refine Xt.Nw.drew ?_ | refine Xt.Nw.drewN ?_ _ | refine Xt.Nw.alloc ?_ _ | refine Xt.Nw.joined ?_ | refine Xt.Nw.drewd ?_ | refine Xt.Nw.drewdN ?_ | refine Xt.Nw.ext ?_ | refine Xt.Nw.ext_some ?_ (by assumption) | refine Xt.Nw.setCell ?_ (by simp [go_sem] <;> omega) _))⟩
  · have d0 : decide (k < 1) = false := by simp; omega
    have d1 : decide (15 < k) = true := by simp; omega
    go_enter Tryz.func81, Tryz.ntmps81
    go_wp2
    go_ret
    exact ⟨rfl, (by repeat (first | exact Xt.Nw.refl _ | refine Xt.Nw.drew ?_ | refine Xt.Nw.drewN ?_ _ | refine Xt.Nw.alloc ?_ _ | refine Xt.Nw.joined ?_ | refine Xt.Nw.drewd ?_ | refine Xt.Nw.drewdN ?_ | refine Xt.Nw.ext ?_ | refine Xt.Nw.ext_some ?_ (by assumption) | refine Xt.Nw.setCell ?_ (by simp [go_sem] <;> omega) _))⟩
end Go.Proofs.YtnfpicnigfmbdaaGreatDoor
namespace Go.Proofs.YtnfpicnigfmbdaaGreatDoor
open Go.RowKit Go.Xt
/-- client.Check of any operation. -/
theorem check_any (o : Ox) (hw : o.Wf) (w : World) : Calls Tryz.prog 81 #[opV o] w fun e w' => e = .returned (.int .i64 (chkO o)) ∧ Nw w w' := by
  obtain ⟨k, a, b, c, d, e, f⟩ := o
  have he := hw.by_
  simp only at he
  unfold opV
  simp only
  by_cases hk : 1 ≤ k ∧ k ≤ 15
  · rcases (by omega : k = 1 ∨ k = 2 ∨ k = 3 ∨ k = 4 ∨ k = 5 ∨ k = 6 ∨ k = 7 ∨ k = 8 ∨ k = 9 ∨ k = 10 ∨ k = 11 ∨ k = 12 ∨ k = 13 ∨ k = 14 ∨ k = 15) with rfl | rfl | rfl | rfl | rfl | rfl | rfl | rfl | rfl | rfl | rfl | rfl | rfl | rfl | rfl
    · have e0 : Ox.formed ⟨1, a, b, c, d, e, f⟩ = eqB 1 0 0 0 0 0 0 1 a b c d e f := by
        have hh : ∀ x : Int, decide ((0 : Int) = x) = decide (x = 0) := fun x => decide_eq_decide.2 ⟨Eq.symm, Eq.symm⟩
        simp [Ox.formed, eqB, uK, uH, uV, uO, uB, uD, hh, Bool.and_assoc]
      have e1 : (if eqB 1 0 0 0 0 0 0 1 a b c d e f = false then (2 : Int) else 0) = chkO ⟨1, a, b, c, d, e, f⟩ := by
        rw [chkO, e0]
        simp [uH]
      rw [← e1]
      exact ccheck_1 a b c d e f w
    · have e0 : Ox.formed ⟨2, a, b, c, d, e, f⟩ = eqB 2 0 0 0 0 0 0 2 a b c d e f := by
        have hh : ∀ x : Int, decide ((0 : Int) = x) = decide (x = 0) := fun x => decide_eq_decide.2 ⟨Eq.symm, Eq.symm⟩
        simp [Ox.formed, eqB, uK, uH, uV, uO, uB, uD, hh, Bool.and_assoc]
      have e1 : (if eqB 2 0 0 0 0 0 0 2 a b c d e f = false then (2 : Int) else 0) = chkO ⟨2, a, b, c, d, e, f⟩ := by
        rw [chkO, e0]
        simp [uH]
      rw [← e1]
      exact ccheck_2 a b c d e f w
    · have e0 : Ox.formed ⟨3, a, b, c, d, e, f⟩ = eqB 3 a 0 0 0 0 0 3 a b c d e f := by
        have hh : ∀ x : Int, decide ((0 : Int) = x) = decide (x = 0) := fun x => decide_eq_decide.2 ⟨Eq.symm, Eq.symm⟩
        simp [Ox.formed, eqB, uK, uH, uV, uO, uB, uD, hh, Bool.and_assoc]
      have e1 : (if eqB 3 a 0 0 0 0 0 3 a b c d e f = false then (2 : Int) else 0) = chkO ⟨3, a, b, c, d, e, f⟩ := by
        rw [chkO, e0]
        simp [uH]
      rw [← e1]
      exact ccheck_3 a b c d e f w
    · have e0 : Ox.formed ⟨4, a, b, c, d, e, f⟩ = eqB 4 a 0 c 0 0 f 4 a b c d e f := by
        have hh : ∀ x : Int, decide ((0 : Int) = x) = decide (x = 0) := fun x => decide_eq_decide.2 ⟨Eq.symm, Eq.symm⟩
        simp [Ox.formed, eqB, uK, uH, uV, uO, uB, uD, hh, Bool.and_assoc]
      have e1 : (if eqB 4 a 0 c 0 0 f 4 a b c d e f = false then (2 : Int) else 0) = chkO ⟨4, a, b, c, d, e, f⟩ := by
        rw [chkO, e0]
        simp [uH]
      rw [← e1]
      exact ccheck_4 a b c d e f w
    · have e0 : Ox.formed ⟨5, a, b, c, d, e, f⟩ = eqB 5 a 0 c 0 0 f 5 a b c d e f := by
        have hh : ∀ x : Int, decide ((0 : Int) = x) = decide (x = 0) := fun x => decide_eq_decide.2 ⟨Eq.symm, Eq.symm⟩
        simp [Ox.formed, eqB, uK, uH, uV, uO, uB, uD, hh, Bool.and_assoc]
      have e1 : (if eqB 5 a 0 c 0 0 f 5 a b c d e f = false then (2 : Int) else 0) = chkO ⟨5, a, b, c, d, e, f⟩ := by
        rw [chkO, e0]
        simp [uH]
      rw [← e1]
      exact ccheck_5 a b c d e f w
    · have e0 : Ox.formed ⟨6, a, b, c, d, e, f⟩ = eqB 6 a 0 0 0 0 0 6 a b c d e f := by
        have hh : ∀ x : Int, decide ((0 : Int) = x) = decide (x = 0) := fun x => decide_eq_decide.2 ⟨Eq.symm, Eq.symm⟩
        simp [Ox.formed, eqB, uK, uH, uV, uO, uB, uD, hh, Bool.and_assoc]
      have e1 : (if eqB 6 a 0 0 0 0 0 6 a b c d e f = false then (2 : Int) else 0) = chkO ⟨6, a, b, c, d, e, f⟩ := by
        rw [chkO, e0]
        simp [uH]
      rw [← e1]
      exact ccheck_6 a b c d e f w
    · have e0 : Ox.formed ⟨7, a, b, c, d, e, f⟩ = eqB 7 a 0 c d 0 0 7 a b c d e f := by
        have hh : ∀ x : Int, decide ((0 : Int) = x) = decide (x = 0) := fun x => decide_eq_decide.2 ⟨Eq.symm, Eq.symm⟩
        simp [Ox.formed, eqB, uK, uH, uV, uO, uB, uD, hh, Bool.and_assoc]
      have e1 : (if eqB 7 a 0 c d 0 0 7 a b c d e f = false then (2 : Int) else 0) = chkO ⟨7, a, b, c, d, e, f⟩ := by
        rw [chkO, e0]
        simp [uH]
      rw [← e1]
      exact ccheck_7 a b c d e f w
    · have e0 : Ox.formed ⟨8, a, b, c, d, e, f⟩ = eqB 8 a b 0 0 e f 8 a b c d e f := by
        have hh : ∀ x : Int, decide ((0 : Int) = x) = decide (x = 0) := fun x => decide_eq_decide.2 ⟨Eq.symm, Eq.symm⟩
        simp [Ox.formed, eqB, uK, uH, uV, uO, uB, uD, hh, Bool.and_assoc]
      have e1 : (if eqB 8 a b 0 0 e f 8 a b c d e f = false then (2 : Int) else if spE a b ≠ 0 ∨ e = 0 then 13 else if 18446744073709551615 - e < b then 12 else 0) = chkO ⟨8, a, b, c, d, e, f⟩ := by
        rw [chkO, e0]
        congr 1
        simp only [spE, uH]
        by_cases h1 : a ≤ b
        · have h2 : ¬ b < a := by omega
          simp [h1, h2]
        · have h2 : b < a := by omega
          simp [h1, h2]
      rw [← e1]
      exact ccheck_8 a b c d e f he w
    · have e0 : Ox.formed ⟨9, a, b, c, d, e, f⟩ = eqB 9 a b 0 0 0 0 9 a b c d e f := by
        have hh : ∀ x : Int, decide ((0 : Int) = x) = decide (x = 0) := fun x => decide_eq_decide.2 ⟨Eq.symm, Eq.symm⟩
        simp [Ox.formed, eqB, uK, uH, uV, uO, uB, uD, hh, Bool.and_assoc]
      have e1 : (if eqB 9 a b 0 0 0 0 9 a b c d e f = false then (2 : Int) else if spE a b ≠ 0 then 13 else 0) = chkO ⟨9, a, b, c, d, e, f⟩ := by
        rw [chkO, e0]
        congr 1
        simp only [spE, uH]
        by_cases h1 : a ≤ b
        · have h2 : ¬ b < a := by omega
          simp [h1, h2]
        · have h2 : b < a := by omega
          simp [h1, h2]
      rw [← e1]
      exact ccheck_9 a b c d e f w
    · have e0 : Ox.formed ⟨10, a, b, c, d, e, f⟩ = eqB 10 0 0 0 0 0 0 10 a b c d e f := by
        have hh : ∀ x : Int, decide ((0 : Int) = x) = decide (x = 0) := fun x => decide_eq_decide.2 ⟨Eq.symm, Eq.symm⟩
        simp [Ox.formed, eqB, uK, uH, uV, uO, uB, uD, hh, Bool.and_assoc]
      have e1 : (if eqB 10 0 0 0 0 0 0 10 a b c d e f = false then (2 : Int) else 0) = chkO ⟨10, a, b, c, d, e, f⟩ := by
        rw [chkO, e0]
        simp [uH]
      rw [← e1]
      exact ccheck_10 a b c d e f w
    · have e0 : Ox.formed ⟨11, a, b, c, d, e, f⟩ = eqB 11 a b 0 0 0 0 11 a b c d e f := by
        have hh : ∀ x : Int, decide ((0 : Int) = x) = decide (x = 0) := fun x => decide_eq_decide.2 ⟨Eq.symm, Eq.symm⟩
        simp [Ox.formed, eqB, uK, uH, uV, uO, uB, uD, hh, Bool.and_assoc]
      have e1 : (if eqB 11 a b 0 0 0 0 11 a b c d e f = false then (2 : Int) else if spE a b ≠ 0 then 13 else 0) = chkO ⟨11, a, b, c, d, e, f⟩ := by
        rw [chkO, e0]
        congr 1
        simp only [spE, uH]
        by_cases h1 : a ≤ b
        · have h2 : ¬ b < a := by omega
          simp [h1, h2]
        · have h2 : b < a := by omega
          simp [h1, h2]
      rw [← e1]
      exact ccheck_11 a b c d e f w
    · have e0 : Ox.formed ⟨12, a, b, c, d, e, f⟩ = eqB 12 0 0 0 0 0 0 12 a b c d e f := by
        have hh : ∀ x : Int, decide ((0 : Int) = x) = decide (x = 0) := fun x => decide_eq_decide.2 ⟨Eq.symm, Eq.symm⟩
        simp [Ox.formed, eqB, uK, uH, uV, uO, uB, uD, hh, Bool.and_assoc]
      have e1 : (if eqB 12 0 0 0 0 0 0 12 a b c d e f = false then (2 : Int) else 0) = chkO ⟨12, a, b, c, d, e, f⟩ := by
        rw [chkO, e0]
        simp [uH]
      rw [← e1]
      exact ccheck_12 a b c d e f w
    · have e0 : Ox.formed ⟨13, a, b, c, d, e, f⟩ = eqB 13 a 0 0 0 0 0 13 a b c d e f := by
        have hh : ∀ x : Int, decide ((0 : Int) = x) = decide (x = 0) := fun x => decide_eq_decide.2 ⟨Eq.symm, Eq.symm⟩
        simp [Ox.formed, eqB, uK, uH, uV, uO, uB, uD, hh, Bool.and_assoc]
      have e1 : (if eqB 13 a 0 0 0 0 0 13 a b c d e f = false then (2 : Int) else 0) = chkO ⟨13, a, b, c, d, e, f⟩ := by
        rw [chkO, e0]
        simp [uH]
      rw [← e1]
      exact ccheck_13 a b c d e f w
    · have e0 : Ox.formed ⟨14, a, b, c, d, e, f⟩ = eqB 14 0 0 0 0 0 0 14 a b c d e f := by
        have hh : ∀ x : Int, decide ((0 : Int) = x) = decide (x = 0) := fun x => decide_eq_decide.2 ⟨Eq.symm, Eq.symm⟩
        simp [Ox.formed, eqB, uK, uH, uV, uO, uB, uD, hh, Bool.and_assoc]
      have e1 : (if eqB 14 0 0 0 0 0 0 14 a b c d e f = false then (2 : Int) else 0) = chkO ⟨14, a, b, c, d, e, f⟩ := by
        rw [chkO, e0]
        simp [uH]
      rw [← e1]
      exact ccheck_14 a b c d e f w
    · have e0 : Ox.formed ⟨15, a, b, c, d, e, f⟩ = eqB 15 0 0 0 0 0 0 15 a b c d e f := by
        have hh : ∀ x : Int, decide ((0 : Int) = x) = decide (x = 0) := fun x => decide_eq_decide.2 ⟨Eq.symm, Eq.symm⟩
        simp [Ox.formed, eqB, uK, uH, uV, uO, uB, uD, hh, Bool.and_assoc]
      have e1 : (if eqB 15 0 0 0 0 0 0 15 a b c d e f = false then (2 : Int) else 0) = chkO ⟨15, a, b, c, d, e, f⟩ := by
        rw [chkO, e0]
        simp [uH]
      rw [← e1]
      exact ccheck_15 a b c d e f w
  · have e1 : chkO ⟨k, a, b, c, d, e, f⟩ = 2 := by
      unfold chkO Ox.formed
      simp only
      rw [if_pos]
      by_cases h1 : 1 ≤ k
      · have h2 : decide (k ≤ 15) = false := by simp; omega
        simp [h2]
      · simp [h1]
    rw [e1]; exact ccheck_out k a b c d e f (by omega) w
end Go.Proofs.YtnfpicnigfmbdaaGreatDoor
