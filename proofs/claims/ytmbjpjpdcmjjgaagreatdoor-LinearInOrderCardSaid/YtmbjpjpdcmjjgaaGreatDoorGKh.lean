import Derived.Test.YtmbjpjpdcmjjgaaGreatDoorGKg0
import Derived.Test.YtmbjpjpdcmjjgaaGreatDoorGSb
set_option linter.unusedVariables false
set_option linter.unusedSimpArgs false
set_option linter.unnecessarySimpa false
namespace Go.Proofs.YtmbjpjpdcmjjgaaGreatDoor
open Go.RowKit Go.Xt
/-! The search. -/
structure Sr (W0 : World) (l : List Cl) (A : Option Addr) (n cap sb vb : Nat) (B : Option Addr) (cb bs by_ bo bq c0 c1 yk : Nat) : Prop where
  hl : Cs W0 A n l
  hn : n ≤ 10
  wf : ∀ y ∈ l, WfX y
  s0 : W0.cell? ⟨sb, 0, none⟩ = some (.slice A n cap)
  s2 : W0.cell? ⟨sb, 2, none⟩ = some (.slice B n cb)
  s3 : W0.cell? ⟨sb, 3, none⟩ = some (.int .i64 (mu l : Nat))
  s4 : W0.cell? ⟨sb, 4, none⟩ = some (.map (some vb))
  row : Is W0 B n ((List.range n).map fun i => (bm l i : Int))
  b1 : W0.cell? ⟨bs, 0, none⟩ = some (.pointer (some ⟨sb, 0, none⟩))
  b2 : W0.cell? ⟨by_, 0, none⟩ = some (.func (.func yk) #[] #[.pointer (some ⟨c0, 0, none⟩), .pointer (some ⟨c1, 0, none⟩)])
  b3 : W0.cell? ⟨bq, 0, none⟩ = some (.func (.func 35) #[] #[.pointer (some ⟨bs, 0, none⟩), .pointer (some ⟨by_, 0, none⟩), .pointer (some ⟨bo, 0, none⟩), .pointer (some ⟨bq, 0, none⟩)])
  lo : bo < W0.heap.size
  lv : vb < W0.heap.size
  l0 : c0 < W0.heap.size
  l1 : c1 < W0.heap.size
  x1 : ∀ b ∈ [sb, bs, by_, bq], b ∉ [bo, vb, c0, c1]
  x2 : ∀ b o, A = some ⟨b, o, none⟩ → b ∉ [bo, vb, c0, c1]
  x3 : ∀ b o, B = some ⟨b, o, none⟩ → b ∉ [bo, vb, c0, c1]
  x4 : bo ≠ vb ∧ bo ≠ c0 ∧ bo ≠ c1 ∧ vb ≠ c0 ∧ vb ≠ c1
  fmt : ∀ W, Chg [bo, vb, c0, c1] W0 W → FmtAt W
structure Ss (W0 : World) (l : List Cl) (bo vb c0 c1 : Nat) (o : List Nat) (v : Value) (cnt : Nat) (W : World) : Prop where
  chg : Chg [bo, vb, c0, c1] W0 W
  ob : W.cell? ⟨bo, 0, none⟩ = some v
  oz : W.frozen? ⟨bo, 0, none⟩ = false
  own : OwnI W W0.heap.size v (natI o)
  vn : VainAt l W vb cnt
theorem Ss.nw {W0 W W' : World} {l : List Cl} {bo vb c0 c1 : Nat} {o : List Nat} {v : Value} {cnt : Nat} (h : Ss W0 l bo vb c0 c1 o v cnt W) (hn : Nw W W') : Ss W0 l bo vb c0 c1 o v cnt W' :=
  ⟨h.chg.trans (Chg.of_nw hn), cell_nw h.ob hn, (frozen_nw (World.block_lt_of_cell? W _ h.ob) hn).trans h.oz, OwnI.chg h.own (Chg.of_nw hn : Chg [] _ _) (by simp), h.vn.kept hn.grown (by simp)⟩
def tc (n : Nat) : Nat → Nat
  | 0 => 0
  | f + 1 => 1 + n * tc n f
def tn (n f : Nat) : Nat := 1 + n * tc n f
def upTo (l : List Cl) (f : Nat) (o : List Nat) (s : Md) (i : Nat) : List (List Nat) := (if fullB l o then [o] else []) ++ (List.range i).flatMap fun i =>
  if mayB l o i then match l[i]?.bind (nextM s) with
    | some s' => exts l f (o ++ [i]) s'
    | none => []
  else []
theorem upTo_all (l : List Cl) (f : Nat) (o : List Nat) (s : Md) : upTo l f o s l.length = exts l (f + 1) o s := rfl
theorem upTo_succ (l : List Cl) (f : Nat) (o : List Nat) (s : Md) (i : Nat) : upTo l f o s (i + 1) = upTo l f o s i ++ if mayB l o i then match l[i]?.bind (nextM s) with | some s' => exts l f (o ++ [i]) s' | none => [] else [] := by
  unfold upTo
  rw [List.range_succ, List.flatMap_append, ← List.append_assoc]
  simp
theorem upTo_no {l : List Cl} {f : Nat} {o : List Nat} {s : Md} {i : Nat} (h : mayB l o i = false) : upTo l f o s (i + 1) = upTo l f o s i := by rw [upTo_succ, h]; simp
theorem upTo_none {l : List Cl} {f : Nat} {o : List Nat} {s : Md} {i : Nat} {x : Cl} (hx : l[i]? = some x) (h : nextM s x = none) : upTo l f o s (i + 1) = upTo l f o s i := by
  rw [upTo_succ, hx]; simp [h]
theorem upTo_some {l : List Cl} {f : Nat} {o : List Nat} {s s' : Md} {i : Nat} {x : Cl} (hm : mayB l o i = true) (hx : l[i]? = some x) (h : nextM s x = some s') : upTo l f o s (i + 1) = upTo l f o s i ++ exts l f (o ++ [i]) s' := by
  rw [upTo_succ, hm, hx]; simp [h]
theorem upTo_pre (l : List Cl) (f : Nat) (o : List Nat) (s : Md) : ∀ (k i : Nat), ∃ r, upTo l f o s (i + k) = upTo l f o s i ++ r
  | 0, i => ⟨[], by simp⟩
  | k + 1, i => by
    obtain ⟨r, hr⟩ := upTo_pre l f o s k i
    rw [← Nat.add_assoc, upTo_succ, hr]
    exact ⟨_, List.append_assoc _ _ _⟩
section
variable (go : List (List Nat) → Bool) (J : List (List Nat) → Value → World → Prop)
structure Li (W0 W1 : World) (l : List Cl) (bo vb c0 c1 f : Nat) (o : List Nat) (s : Md) (ys : List (List Nat)) (v0 : Value) (cnt0 : Nat) (i : Nat) (sm : Bool) (wr : World) (v : Value) (zs : List (List Nat)) (cnt : Nat) : Prop where
  came : Came go ys zs (upTo l f o s i) true
  sm_ : sm = !zs.isEmpty
  st : Ss W0 l bo vb c0 c1 o v cnt wr
  cb : cnt ≤ cnt0 + i * tc l.length f
  j : J (ys ++ zs) v wr
  chg : Chg ([bo, vb, c0, c1] ++ v0.ownBlock.toList) W1 wr
  mv : ∀ k, v.ownBlock = some k → v0.ownBlock = some k ∨ W1.heap.size ≤ k
def FromP (W0 W : World) (l : List Cl) (bo vb c0 c1 f : Nat) (o : List Nat) (s : Md) (ys : List (List Nat)) (v : Value) (cnt : Nat) (e : Ending) (W' : World) : Prop :=
  ∃ sm g v' cnt' zs, e = .returned (.tuple #[.bool sm, .bool g]) ∧ Came go ys zs (exts l (f + 1) o s) g ∧ (g = true → sm = !zs.isEmpty) ∧ Ss W0 l bo vb c0 c1 o v' cnt' W' ∧ cnt' ≤ cnt + tn l.length f ∧ J (ys ++ zs) v' W' ∧
    Chg ([bo, vb, c0, c1] ++ v.ownBlock.toList) W W' ∧ ∀ k, v'.ownBlock = some k → v.ownBlock = some k ∨ W.heap.size ≤ k
def FromC (W0 : World) (l : List Cl) (bs by_ bo bq vb c0 c1 f : Nat) : Prop := ∀ (o : List Nat) (s : Md) (D : Nat) (W : World) (v : Value) (p : Pl) (cnt : Nat) (ys : List (List Nat)),
  l.length = o.length + f → Ord l.length o → Msk D o → Ss W0 l bo vb c0 c1 o v cnt W → J ys v W → MS W p s o.length → (∀ g ∈ p.foot, g ∉ [bo, vb, c0, c1] ∧ v.ownBlock ≠ some g) → cnt + tn l.length f ≤ 1000000000000000 →
  Calls Tryz.prog 35 #[.int .i64 (D : Int), .pointer (some ⟨p.gm, 0, none⟩), .pointer (some ⟨bs, 0, none⟩), .pointer (some ⟨by_, 0, none⟩), .pointer (some ⟨bo, 0, none⟩), .pointer (some ⟨bq, 0, none⟩)] W
    (FromP go J W0 W l bo vb c0 c1 f o s ys v cnt)
def YieldC (W0 : World) (l : List Cl) (bo vb c0 c1 yk : Nat) : Prop := ∀ (ys : List (List Nat)) (o : List Nat) (W : World) (v : Value) (cnt : Nat), J ys v W → Ss W0 l bo vb c0 c1 o v cnt W → o.length ≤ 1000 →
  Calls Tryz.prog yk #[v, .pointer (some ⟨c0, 0, none⟩), .pointer (some ⟨c1, 0, none⟩)] W fun e W' => e = .returned (.bool (go (ys ++ [o]))) ∧ J (ys ++ [o]) v W' ∧ Chg [c0, c1] W W'
end
set_option maxRecDepth 20000 in
theorem vain_look {l : List Cl} {W : World} {vb cnt D : Nat} {z : ByteArray} (h : VainAt l W vb cnt) (hd : D < 1048576) (hz : z.size ≤ maxLen) :
    ∃ b : Bool, (b = true → Vn l D z) ∧ ∀ W', Nw W W' → (Instr.lookup 72 (.map (some vb)) (plV D z) false).run Tryz.prog W' = .ok (.bool b) W' := by
  obtain ⟨kl, hk⟩ := place_key hd hz
  obtain ⟨Dm, h1, h2⟩ := h
  have inv : ∀ {v : Value} {ps : List MemPlace} {d : DataW Unit}, plainElem Tryz.prog 4 v = some (d, ps) → ∃ b, v = .bool b ∧ d = .lit (.bool b) := fun {v ps d} hv => by
    unfold plainElem at hv
    rw [Tryz.underlying4] at hv
    cases v <;> simp at hv
    obtain ⟨rfl, -⟩ := hv
    exact ⟨_, rfl, rfl⟩
  obtain ⟨v, ps, hrun, hv⟩ := h1.lookup placeKeyed Tryz.underlying72 (Tryz.zeroValue4 _) (plainElem_bool Tryz.underlying4 false) hk
  obtain ⟨b, rfl, hb⟩ := inv hv
  refine ⟨b, fun hbt => h2 D z kl hk (by rw [hb, hbt]), fun W' hW => ?_⟩
  obtain ⟨v', ps', hrun', hv'⟩ := (h1.kept hW.grown (by simp)).lookup placeKeyed Tryz.underlying72 (Tryz.zeroValue4 _) (plainElem_bool Tryz.underlying4 false) hk
  obtain ⟨b', rfl, hb'⟩ := inv hv'
  have : b = b' := by rw [hb] at hb'; injection hb' with hb'; injection hb'
  rw [hrun', this]
set_option maxRecDepth 20000 in
theorem vain_put {l : List Cl} {W : World} {vb cnt D : Nat} {z : ByteArray} (h : VainAt l W vb cnt) (hd : D < 1048576) (hz : z.size ≤ maxLen) (hc : cnt < maxLen) (hv : Vn l D z) :
    ∃ W', (Instr.mapUpdate 72 (.map (some vb)) (plV D z) (.bool true)).run Tryz.prog W = .ok () W' ∧ VainAt l W' vb (cnt + 1) ∧ W.grownBy W' (some vb) := by
  obtain ⟨kl, hk⟩ := place_key hd hz
  obtain ⟨Dm, h1, h2⟩ := h
  obtain ⟨W', hrun, h3, h4⟩ := h1.update placeKeyed Tryz.underlying72 hc hk (plainElem_bool Tryz.underlying4 true)
  refine ⟨W', hrun, ⟨_, h3, fun d z' kl' hk' hat => ?_⟩, h4⟩
  by_cases hkk : kl' = kl
  · subst hkk
    have := placeKeyed.inj hk' hk
    injection this with this
    have e : d = D ∧ z' = z := by
      have h5 : (d : Int) = D ∧ z' = z := by simpa using this
      exact ⟨by omega, h5.2⟩
    rw [e.1, e.2]; exact hv
  · rw [Maps.atKey_put_other hkk] at hat
    exact h2 d z' kl' hk' hat
end Go.Proofs.YtmbjpjpdcmjjgaaGreatDoor
