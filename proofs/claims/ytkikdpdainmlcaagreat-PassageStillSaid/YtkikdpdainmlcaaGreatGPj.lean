import Derived.Test.YtkikdpdainmlcaaGreatGPh
set_option linter.unusedVariables false
set_option linter.unusedSimpArgs false
set_option linter.unnecessarySimpa false
namespace Go.Proofs.YtkikdpdainmlcaaGreat
open Go.RowKit Go.Xt
/-! The ordered map at any pairs: Get, Put, PutIfAbsent, CompareAndSwap, Len, Delete. -/
def valL (k : Int) (l : List (Int × Int)) : Int := (getL k l).getD 0
structure Upd (w : World) (gp : Nat) (v : Value) (l : List (Int × Int)) (v' : Value) (w' : World) : Prop where
  om : OM w' gp v' l
  chg : Chg (foot gp v) w w'
  moved : Moved w v v'
theorem Upd.same {w w' : World} {gp : Nat} {v : Value} {l : List (Int × Int)} (h : OM w gp v l) (hn : Nw w w') : Upd w gp v l v w' :=
  ⟨h.nw hn, (Chg.of_nw hn : Chg [] w w').wide (by simp), .inl rfl⟩
theorem Moved.le {w w2 : World} {v v' : Value} (h : Moved w2 v v') (hs : w.heap.size ≤ w2.heap.size) : Moved w v v' :=
  h.imp id fun ⟨g, e, hg⟩ => ⟨g, e, Nat.le_trans hs hg⟩
theorem Upd.after {w w2 w' : World} {gp : Nat} {v v' : Value} {l : List (Int × Int)} (hn : Nw w w2) (h : Upd w2 gp v l v' w') : Upd w gp v l v' w' :=
  ⟨h.om, (Chg.of_nw hn).trans h.chg, h.moved.le hn.grown.size⟩
theorem Upd.nw {w w2 w' : World} {gp : Nat} {v v' : Value} {l : List (Int × Int)} (h : Upd w gp v l v' w2) (hn : Nw w2 w') : Upd w gp v l v' w' :=
  ⟨h.om.nw hn, h.chg.trans (Chg.of_nw hn), h.moved⟩
theorem Upd.trans {w w1 w2 : World} {gp : Nat} {v v1 v2 : Value} {l1 l2 : List (Int × Int)} (h : Upd w gp v l1 v1 w1) (k : Upd w1 gp v1 l2 v2 w2) : Upd w gp v l2 v2 w2 := by
  refine ⟨k.om, h.chg.then k.chg fun y hy => ?_, ?_⟩
  · rcases mem_foot.1 hy with rfl | hy
    · exact .inl (mem_foot.2 (.inl rfl))
    · rcases h.moved with e | ⟨q, e, hq⟩
      · exact .inl (mem_foot.2 (.inr (e ▸ hy)))
      · rw [e] at hy; cases hy; exact .inr hq
  · rcases k.moved with e | ⟨q, e, hq⟩
    · rcases h.moved with e2 | ⟨q, e2, hq⟩
      · exact .inl (e.trans e2)
      · exact .inr ⟨q, e.trans e2, hq⟩
    · exact .inr ⟨q, e, Nat.le_trans h.chg.size hq⟩
theorem Upd.store {w W3 : World} {gp : Nat} {v v' x : Value} {l : List (Int × Int)} (hp : W3.cell? ⟨gp, 0, none⟩ = some x) (hz : W3.frozen? ⟨gp, 0, none⟩ = false) (hrow : W3.ownsRow 0 51 2 v' l.length (pcells l)) (ne : v'.ownBlock ≠ some gp) (ha : asc l) (hc : Chg v.ownBlock.toList w W3) (hm : Moved w v v') : Upd w gp v l v' (W3.setCell ⟨gp, 0, none⟩ v') := by
  have hs1 := Chg.set1 W3 gp 0 v'
  refine ⟨⟨World.cell?_setCell_same _ _ _ hp, own_chg hrow hs1 (fun g hg hx => by simp at hx; subst hx; exact ne hg), ne, by rw [World.frozen?_setCell]; exact hz, ha⟩, ?_, hm⟩
  exact (hc.wide (Y := foot gp v) (fun y hy => by rw [mem_foot]; exact .inr (by simpa using hy))).then hs1 (fun y hy => by simp at hy; subst hy; exact .inl (mem_foot.2 (.inl rfl)))
theorem set_upd {w : World} {gp : Nat} {v : Value} {l : List (Int × Int)} (h : OM w gp v l) (hn : l.length ≤ 1000000) (k x : Int) :
    Calls Tryz.prog 101 #[.pointer (some ⟨gp, 0, none⟩), .int .u64 k, .int .u64 x] w fun e w' => e = .returned (.tuple #[]) ∧ ∃ v', Upd w gp v (putL k x l) v' w' := by
  refine (set_any w gp v l k x h hn).mono ?_
  rintro e w' ⟨rfl, v', h1, h2, h3⟩
  exact ⟨rfl, v', h1, h2, h3⟩
theorem get_val {k : Int} {l : List (Int × Int)} : getL k l = if hasK k l then some (valL k l) else none := by
  rw [hasK_get]; unfold valL; cases getL k l <;> rfl
theorem val_not {k : Int} {l : List (Int × Int)} (h : hasK k l = false) : valL k l = 0 := by
  rw [hasK_get] at h; unfold valL; cases hg : getL k l <;> simp_all
set_option maxRecDepth 20000 in
set_option maxHeartbeats 4000000 in
theorem get_om {w : World} {gp : Nat} {v : Value} {l : List (Int × Int)} (h : OM w gp v l) (hn : l.length ≤ 1000000) (k : Int) :
    Calls Tryz.prog 134 #[.pointer (some ⟨gp, 0, none⟩), .int .u64 k] w fun e w' => e = .returned (.tuple #[.int .u64 (valL k l), .bool (hasK k l)]) ∧ Nw w w' := by
  have p0 := h.p0
  haveI : In gp w := ⟨h.lt⟩
  have HF := Lib.hid (find_om h hn k)
  cases hh : hasK k l with
  | false =>
    rw [val_not hh]
    rw [hh] at HF
    clear h hn hh
    go_enter Tryz.func134, Tryz.ntmps134
    go_wp2_with fail
    refine HF.out.mono ?_
    rintro e w' ⟨rfl, dW, rfl⟩
    go_wp2
    exact bodyPost_ret (results_tmp2 rfl _ _ _) rfl ⟨rfl, nwa⟩
  | true =>
    have hat := get_at k l (valL k l) (by rw [get_val, hh]; rfl)
    have hP := (List.getElem?_eq_some_iff.1 hat).1
    rcases h.form with ⟨rfl, rfl⟩ | ⟨g, c, rfl, -, -, -⟩
    · cases hh
    have c1 := (h.pat.at' _ _ hat).2
    haveI : In g w := ⟨World.block_lt_of_cell? w _ c1⟩
    rw [hh] at HF
    obtain ⟨P, hPe⟩ : ∃ P, P = pos k l := ⟨_, rfl⟩
    rw [← hPe] at HF hP c1
    obtain ⟨n, hne⟩ : ∃ n, n = l.length := ⟨_, rfl⟩
    rw [← hne] at hP p0
    obtain ⟨x, hx⟩ : ∃ x, x = valL k l := ⟨_, rfl⟩
    rw [← hx] at c1 ⊢
    have q1 : (P : Int) < (n : Int) := by omega
    have q0 : (0 : Int) ≤ (P : Int) := by omega
    clear h hat hPe hne hx hh
    go_enter Tryz.func134, Tryz.ntmps134
    go_wp2_with fail
    refine HF.out.mono ?_
    rintro e w' ⟨rfl, dW, rfl⟩
    go_wp2
    exact bodyPost_ret (results_tmp2 rfl _ _ _) rfl ⟨rfl, nwa⟩
set_option maxRecDepth 20000 in
set_option maxHeartbeats 4000000 in
theorem put_om {w : World} {gp : Nat} {v : Value} {l : List (Int × Int)} (h : OM w gp v l) (hn : l.length ≤ 1000000) (k x : Int) :
    Calls Tryz.prog 143 #[.pointer (some ⟨gp, 0, none⟩), .int .u64 k, .int .u64 x] w fun e w' => e = .returned (.tuple #[.int .u64 (valL k l), .bool (hasK k l), .int .i64 0]) ∧ ∃ v', Upd w gp v (putL k x l) v' w' := by
  haveI : In gp w := ⟨h.lt⟩
  have HF := Lib.hid (get_om h hn k)
  have HS := Lib.hid (fun W (hw : Nw w W) => set_upd (h.nw hw) hn k x)
  obtain ⟨y, hy⟩ : ∃ y, y = valL k l := ⟨_, rfl⟩
  obtain ⟨b, hb⟩ : ∃ b, b = hasK k l := ⟨_, rfl⟩
  rw [← hy, ← hb] at HF ⊢
  clear h hy hb
  go_enter Tryz.func143, Tryz.ntmps143
  go_wp2_with fail
  refine HF.out.mono ?_
  rintro e W2 ⟨rfl, hn2⟩
  have HN := Lib.hid hn2
  clear hn2
  go_wp2_with fail
  refine (HS.out W2 HN.out).mono ?_
  rintro e W3 ⟨rfl, hu⟩
  have HU := Lib.hid hu
  clear hu
  go_wp2
  obtain ⟨v', hu⟩ := HU.out
  refine bodyPost_ret (v := .tuple #[.int .u64 y, .bool b, .int .i64 0]) ?_ rfl ⟨rfl, v', hu.after HN.out⟩
  simp [results, Tryz.results143, go_sem]
def addL (k x : Int) (l : List (Int × Int)) : List (Int × Int) := if hasK k l then l else putL k x l
set_option maxRecDepth 20000 in
set_option maxHeartbeats 4000000 in
theorem add_om {w : World} {gp : Nat} {v : Value} {l : List (Int × Int)} (h : OM w gp v l) (hn : l.length ≤ 1000000) (k x : Int) :
    Calls Tryz.prog 144 #[.pointer (some ⟨gp, 0, none⟩), .int .u64 k, .int .u64 x] w fun e w' => e = .returned (.tuple #[.int .u64 (valL k l), .bool (hasK k l), .int .i64 0]) ∧ ∃ v', Upd w gp v (addL k x l) v' w' := by
  haveI : In gp w := ⟨h.lt⟩
  have HF := Lib.hid (get_om h hn k)
  unfold addL
  cases hb : hasK k l with
  | true =>
    have HU := Lib.hid (fun W (hw : Nw w W) => Upd.same h hw)
    rw [hb] at HF
    obtain ⟨y, hy⟩ : ∃ y, y = valL k l := ⟨_, rfl⟩
    rw [← hy] at HF ⊢
    clear h hy hb
    go_enter Tryz.func144, Tryz.ntmps144
    go_wp2_with fail
    refine HF.out.mono ?_
    rintro e W2 ⟨rfl, hn2⟩
    have HN := Lib.hid hn2
    clear hn2
    go_wp2
    refine bodyPost_ret (v := .tuple #[.int .u64 y, .bool true, .int .i64 0]) ?_ rfl ⟨rfl, v, HU.out _ HN.out⟩
    simp [results, Tryz.results144, go_sem]
  | false =>
    have HS := Lib.hid (fun W (hw : Nw w W) => set_upd (h.nw hw) hn k x)
    rw [hb] at HF
    obtain ⟨y, hy⟩ : ∃ y, y = valL k l := ⟨_, rfl⟩
    rw [← hy] at HF ⊢
    clear h hy hb
    go_enter Tryz.func144, Tryz.ntmps144
    go_wp2_with fail
    refine HF.out.mono ?_
    rintro e W2 ⟨rfl, hn2⟩
    have HN := Lib.hid hn2
    clear hn2
    go_wp2_with fail
    refine (HS.out W2 HN.out).mono ?_
    rintro e W3 ⟨rfl, hu⟩
    have HU := Lib.hid hu
    clear hu
    go_wp2
    obtain ⟨v', hu⟩ := HU.out
    refine bodyPost_ret (v := .tuple #[.int .u64 y, .bool false, .int .i64 0]) ?_ rfl ⟨rfl, v', hu.after HN.out⟩
    simp [results, Tryz.results144, go_sem]
def casB (k o : Int) (l : List (Int × Int)) : Bool := hasK k l && decide (valL k l = o)
def casL (k o x : Int) (l : List (Int × Int)) : List (Int × Int) := if casB k o l then putL k x l else l
set_option maxRecDepth 20000 in
set_option maxHeartbeats 4000000 in
theorem cas_om {w : World} {gp : Nat} {v : Value} {l : List (Int × Int)} (h : OM w gp v l) (hn : l.length ≤ 1000000) (k o x : Int) :
    Calls Tryz.prog 146 #[.pointer (some ⟨gp, 0, none⟩), .int .u64 k, .int .u64 o, .int .u64 x] w fun e w' => e = .returned (.tuple #[.int .u64 (valL k l), .bool (hasK k l), .bool (casB k o l), .int .i64 0]) ∧ ∃ v', Upd w gp v (casL k o x l) v' w' := by
  haveI : In gp w := ⟨h.lt⟩
  have HF := Lib.hid (get_om h hn k)
  have HU := Lib.hid (fun W (hw : Nw w W) => Upd.same h hw)
  have HS := Lib.hid (fun W (hw : Nw w W) => set_upd (h.nw hw) hn k x)
  cases hb : hasK k l with
  | false =>
    have e1 : casB k o l = false := by simp [casB, hb]
    have e2 : casL k o x l = l := by simp [casL, e1]
    rw [hb] at HF
    rw [e1, e2]
    obtain ⟨y, hy⟩ : ∃ y, y = valL k l := ⟨_, rfl⟩
    rw [← hy] at HF ⊢
    clear h hy hb e1 e2
    go_enter Tryz.func146, Tryz.ntmps146
    go_wp2_with fail
    refine HF.out.mono ?_
    rintro e W2 ⟨rfl, hn2⟩
    have HN := Lib.hid hn2
    clear hn2
    go_wp2
    refine bodyPost_ret (v := .tuple #[.int .u64 y, .bool false, .bool false, .int .i64 0]) ?_ rfl ⟨rfl, v, HU.out _ HN.out⟩
    simp [results, Tryz.results146, go_sem]
  | true =>
    rw [hb] at HF
    by_cases hyo : valL k l = o
    · have e1 : casB k o l = true := by simp [casB, hb, hyo]
      have e2 : casL k o x l = putL k x l := by simp [casL, e1]
      rw [e1, e2]
      obtain ⟨y, hy⟩ : ∃ y, y = valL k l := ⟨_, rfl⟩
      rw [← hy] at HF hyo ⊢
      subst hyo
      clear h hy hb e1 e2
      go_enter Tryz.func146, Tryz.ntmps146
      go_wp2_with fail
      refine HF.out.mono ?_
      rintro e W2 ⟨rfl, hn2⟩
      have HN := Lib.hid hn2
      clear hn2
      go_wp2_with fail
      refine (HS.out W2 HN.out).mono ?_
      rintro e W3 ⟨rfl, hu⟩
      have HU3 := Lib.hid hu
      clear hu
      go_wp2
      obtain ⟨v', hu⟩ := HU3.out
      refine bodyPost_ret (v := .tuple #[.int .u64 y, .bool true, .bool true, .int .i64 0]) ?_ rfl ⟨rfl, v', hu.after HN.out⟩
      simp [results, Tryz.results146, go_sem]
    · have e1 : casB k o l = false := by simp [casB, hyo]
      have e2 : casL k o x l = l := by simp [casL, e1]
      rw [e1, e2]
      obtain ⟨y, hy⟩ : ∃ y, y = valL k l := ⟨_, rfl⟩
      rw [← hy] at HF hyo ⊢
      have hq : (y == o) = false := by simp [hyo]
      clear h hy hb e1 e2
      go_enter Tryz.func146, Tryz.ntmps146
      go_wp2_with fail
      refine HF.out.mono ?_
      rintro e W2 ⟨rfl, hn2⟩
      have HN := Lib.hid hn2
      clear hn2
      go_wp2
      refine bodyPost_ret (v := .tuple #[.int .u64 y, .bool true, .bool false, .int .i64 0]) ?_ rfl ⟨rfl, v, HU.out _ HN.out⟩
      simp [results, Tryz.results146, go_sem]
theorem len_om {w : World} {gp : Nat} {v : Value} {l : List (Int × Int)} (h : OM w gp v l) :
    Calls Tryz.prog 150 #[.pointer (some ⟨gp, 0, none⟩)] w fun e w' => e = .returned (.int .i64 l.length) ∧ Nw w w' := by
  have p0 := h.p0
  rcases h.form with ⟨rfl, rfl⟩ | ⟨g, c, rfl, -, -, -⟩
  · clear h
    go_enter Tryz.func150, Tryz.ntmps150
    go_wp2
    go_ret
    exact ⟨rfl, Nw.refl _⟩
  · clear h
    go_enter Tryz.func150, Tryz.ntmps150
    go_wp2
    go_ret
    exact ⟨rfl, Nw.refl _⟩
set_option maxRecDepth 20000 in
set_option maxHeartbeats 4000000 in
theorem del_om {w : World} {gp : Nat} {v : Value} {l : List (Int × Int)} (h : OM w gp v l) (hn : l.length ≤ 1000000) (k : Int) :
    Calls Tryz.prog 145 #[.pointer (some ⟨gp, 0, none⟩), .int .u64 k] w fun e w' => e = .returned (.tuple #[.int .u64 (valL k l), .bool (hasK k l), .int .i64 0]) ∧ ∃ v', Upd w gp v (delL k l) v' w' := by
  haveI : In gp w := ⟨h.lt⟩
  have HF := Lib.hid (find_om h hn k)
  cases hh : hasK k l with
  | false =>
    have HU := Lib.hid (fun W (hw : Nw w W) => Upd.same h hw)
    rw [val_not hh, del_not k l hh]
    rw [hh] at HF
    clear h hh
    go_enter Tryz.func145, Tryz.ntmps145
    go_wp2_with fail
    refine HF.out.mono ?_
    rintro e W2 ⟨rfl, hn2⟩
    have HN := Lib.hid hn2
    clear hn2
    go_wp2
    refine bodyPost_ret (v := .tuple #[.int .u64 0, .bool false, .int .i64 0]) ?_ rfl ⟨rfl, v, HU.out _ HN.out⟩
    simp [results, Tryz.results145, go_sem]
  | true =>
    have hat := get_at k l (valL k l) (by rw [get_val, hh]; rfl)
    have hP := (List.getElem?_eq_some_iff.1 hat).1
    rcases h.form with ⟨rfl, rfl⟩ | ⟨g, c, rfl, -, -, -⟩
    · cases hh
    have HD := Lib.hid (del_had k l hh)
    have HH := Lib.hid h
    have p0 := h.p0
    have c1 := (h.pat.at' _ _ hat).2
    haveI : In g w := ⟨World.block_lt_of_cell? w _ c1⟩
    rw [hh] at HF
    obtain ⟨P, hPe⟩ : ∃ P, P = pos k l := ⟨_, rfl⟩
    rw [← hPe] at HF hP c1 HD
    obtain ⟨n, hne⟩ : ∃ n, n = l.length := ⟨_, rfl⟩
    rw [← hne] at hP p0 HH hn ⊢
    obtain ⟨x, hx⟩ : ∃ x, x = valL k l := ⟨_, rfl⟩
    rw [← hx] at c1 ⊢
    have q1 : (P : Int) < (n : Int) := by omega
    have q0 : (0 : Int) ≤ (P : Int) := by omega
    have q2 : IntKind.i64.wrap ((P : Int) + 1) = ((P + 1 : Nat) : Int) := by rw [IntKind.wrap_i64]; omega
    have HNE := Lib.hid hne
    clear h hat hPe hne hx hh
    go_enter Tryz.func145, Tryz.ntmps145
    go_wp2_with fail
    refine HF.out.mono ?_
    rintro e W2 ⟨rfl, hn2⟩
    have h2 := HH.out.nw hn2
    have hrow := h2.row
    rw [← HNE.out] at hrow
    have r0 := cell_nw p0 hn2
    have r1 := cell_nw c1 hn2
    haveI : In gp W2 := ⟨h2.lt⟩
    haveI : In g W2 := ⟨World.block_lt_of_cell? W2 _ r1⟩
    have H2 := Lib.hid h2
    have HR := Lib.hid hrow
    have HN2 := Lib.hid hn2
    clear h2 hrow hn2
    go_wp2_with fail
    refine (delete_some 0 g n c l P (P + 1) (n - 1) W2 HR.out HNE.out.symm (by omega) (by omega) hn (by omega)).mono ?_
    rintro e W3 ⟨rfl, hown, hch⟩
    have hgp : gp ∉ [g] := by have := H2.out.ne; simp [Value.ownBlock] at this ⊢; omega
    have r3 := hch.cell H2.out.p0 hgp
    have z3 := (hch.frozen H2.out.lt hgp).trans H2.out.pz
    have HOW := Lib.hid hown
    have HCH := Lib.hid hch
    clear hown hch hgp r0 r1
    go_wp2
    have hlen : (delL k l).length = n - 1 := by
      have := HNE.out
      rw [← HD.out]; simp; omega
    have hu : Upd W2 gp (.slice (some ⟨g, 0, none⟩) n c) (delL k l) (.slice (some ⟨g, 0, none⟩) (n - 1) c) (W3.setCell ⟨gp, 0, none⟩ (.slice (some ⟨g, 0, none⟩) (n - 1) c)) :=
      Upd.store r3 z3 (by rw [hlen, ← HD.out]; exact HOW.out) H2.out.ne (asc_sub H2.out.asc (del_sub k l)) HCH.out (.inl rfl)
    refine bodyPost_ret (v := .tuple #[.int .u64 x, .bool true, .int .i64 0]) ?_ rfl ⟨rfl, _, hu.after HN2.out⟩
    simp [results, Tryz.results145, go_sem]
end Go.Proofs.YtkikdpdainmlcaaGreat
namespace Go.Proofs.YtkikdpdainmlcaaGreat
open Go.RowKit Go.Xt
/-! The ordered map at any pairs: ends, DeleteRange, Next. -/
def spV (lo hi : Int) : Value := .agg #[.int .u64 lo, .int .u64 hi]
theorem spcheck_ok (lo hi : Int) (h : lo ≤ hi) (w : World) :
    Calls Tryz.prog 141 #[spV lo hi] w fun e w' => e = .returned (.int .i64 0) ∧ Nw w w' := by
  have h2 : ¬ hi < lo := by omega
  unfold spV
  go_enter Tryz.func141, Tryz.ntmps141
  go_wp2
  go_ret
  exact ⟨rfl, nwa⟩
set_option maxRecDepth 20000 in
set_option maxHeartbeats 4000000 in
theorem ends_om {w : World} {gp : Nat} {v : Value} {l : List (Int × Int)} (h : OM w gp v l) (hn : l.length ≤ 1000000) (lo hi : Int) (hlh : lo ≤ hi) :
    Calls Tryz.prog 155 #[.pointer (some ⟨gp, 0, none⟩), spV lo hi] w fun e w' => e = .returned (.tuple #[.int .i64 (pos lo l), .int .i64 (posTo hi l), .int .i64 0]) ∧ Nw w w' := by
  haveI : In gp w := ⟨h.lt⟩
  have HF := Lib.hid (fun W (hw : Nw w W) k => find_om (h.nw hw) hn k)
  have HC := Lib.hid (spcheck_ok lo hi hlh)
  unfold spV at HC ⊢
  have hp := posTo_le hi l
  unfold posTo at hp ⊢
  have HB := Lib.hid (HF.out w (Nw.refl w) hi)
  have HF2 := Lib.hid (fun W (hw : Nw w W) => HF.out W hw hi)
  obtain ⟨P, hP⟩ : ∃ P, P = pos hi l := ⟨_, rfl⟩
  rw [← hP] at HF2 hp ⊢
  cases hb : hasK hi l with
  | true =>
    rw [hb] at HF2
    have hw1 : IntKind.i64.wrap ((P : Int) + 1) = ((P + 1 : Nat) : Int) := by rw [hb] at hp; simp at hp; rw [IntKind.wrap_i64]; omega
    have e1 : (if true = true then P + 1 else P) = P + 1 := rfl
    rw [e1]
    clear h hlh hb hP HB e1 hp
    go_enter Tryz.func155, Tryz.ntmps155
    go_wp2_with fail
    refine (HC.out _).mono ?_
    rintro e w2 ⟨rfl, d2, rfl⟩
    go_wp2_with fail
    refine (HF.out _ (nwa) lo).mono ?_
    rintro e w3 ⟨rfl, d3, rfl⟩
    go_wp2_with fail
    refine (HF2.out _ (nwa)).mono ?_
    rintro e w4 ⟨rfl, d4, rfl⟩
    go_wp2
    refine bodyPost_ret (v := .tuple #[.int .i64 (pos lo l), .int .i64 (P + 1 : Nat), .int .i64 0]) ?_ rfl ⟨rfl, nwa⟩
    simp [results, Tryz.results155, go_sem]
  | false =>
    rw [hb] at HF2
    have e1 : (if false = true then P + 1 else P) = P := rfl
    rw [e1]
    clear h hlh hb hP HB e1 hp
    go_enter Tryz.func155, Tryz.ntmps155
    go_wp2_with fail
    refine (HC.out _).mono ?_
    rintro e w2 ⟨rfl, d2, rfl⟩
    go_wp2_with fail
    refine (HF.out _ (nwa) lo).mono ?_
    rintro e w3 ⟨rfl, d3, rfl⟩
    go_wp2_with fail
    refine (HF2.out _ (nwa)).mono ?_
    rintro e w4 ⟨rfl, d4, rfl⟩
    go_wp2
    refine bodyPost_ret (v := .tuple #[.int .i64 (pos lo l), .int .i64 P, .int .i64 0]) ?_ rfl ⟨rfl, nwa⟩
    simp [results, Tryz.results155, go_sem]
theorem outR_sub (lo hi : Int) (l : List (Int × Int)) : (outR lo hi l).Sublist l := List.filter_sublist
theorem inR_len {lo hi : Int} (hlh : lo ≤ hi) {l : List (Int × Int)} (ha : asc l) : (inR lo hi l).length = posTo hi l - pos lo l := by
  rw [← (split_range hlh ha).1, List.length_drop, List.length_take, Nat.min_eq_left (posTo_le hi l)]
theorem outR_len {lo hi : Int} (hlh : lo ≤ hi) {l : List (Int × Int)} (ha : asc l) : (outR lo hi l).length = pos lo l + (l.length - posTo hi l) := by
  rw [← (split_range hlh ha).2, List.length_append, List.length_drop, List.length_take, Nat.min_eq_left (pos_le lo l)]
set_option maxRecDepth 20000 in
set_option maxHeartbeats 4000000 in
theorem delr_om {w : World} {gp : Nat} {v : Value} {l : List (Int × Int)} (h : OM w gp v l) (hn : l.length ≤ 1000000) (lo hi : Int) (hlh : lo ≤ hi) :
    Calls Tryz.prog 149 #[.pointer (some ⟨gp, 0, none⟩), spV lo hi] w fun e w' => e = .returned (.tuple #[.int .i64 (inR lo hi l).length, .int .i64 0]) ∧ ∃ v', Upd w gp v (outR lo hi l) v' w' := by
  haveI : In gp w := ⟨h.lt⟩
  have HE := Lib.hid (fun W (hw : Nw w W) => ends_om (h.nw hw) hn lo hi hlh)
  have HIL := Lib.hid (inR_len hlh h.asc)
  have HOL := Lib.hid (outR_len hlh h.asc)
  have HSP := Lib.hid (split_range hlh h.asc).2
  have hle := pos_le_to hlh h.asc
  have hto := posTo_le hi l
  rw [HIL.out]
  obtain ⟨i, hi'⟩ : ∃ i, i = pos lo l := ⟨_, rfl⟩
  obtain ⟨j, hj'⟩ : ∃ j, j = posTo hi l := ⟨_, rfl⟩
  simp only [← hi', ← hj'] at HE HIL HOL HSP hle hto ⊢
  have q1 : IntKind.i64.wrap ((j : Int) - (i : Int)) = ((j - i : Nat) : Int) := by rw [IntKind.wrap_i64]; omega
  have HH := Lib.hid h
  have HLE := Lib.hid hle
  have HTO := Lib.hid hto
  unfold spV at HE ⊢
  clear h hlh hi' hj' hle hto
  go_enter Tryz.func149, Tryz.ntmps149
  go_wp2_with fail
  refine (HE.out _ (nwa)).mono ?_
  rintro e W2 ⟨rfl, hn2⟩
  have hn2 : Nw w W2 := Nw.trans (by exact nwa) hn2
  have h2 := HH.out.nw hn2
  have p2 := h2.p0
  haveI : In gp W2 := ⟨h2.lt⟩
  have H2 := Lib.hid h2
  have HN2 := Lib.hid hn2
  clear h2 hn2
  go_wp2_with fail
  refine (delete_any v l i j (i + (l.length - j)) W2 H2.out.row HLE.out HTO.out hn rfl).mono ?_
  rintro e W3 ⟨v', rfl, hown, hch, hvb⟩
  have hgp : gp ∉ v.ownBlock.toList := by rw [Option.mem_toList]; exact H2.out.ne
  have r3 := hch.cell H2.out.p0 hgp
  have z3 := (hch.frozen H2.out.lt hgp).trans H2.out.pz
  obtain ⟨A, n', c', hv'⟩ : ∃ A n' c', v' = .slice A n' c' := by
    rcases own_forms hown with ⟨rfl, _⟩ | ⟨g, c, rfl, _⟩
    · exact ⟨_, _, _, rfl⟩
    · exact ⟨_, _, _, rfl⟩
  have HU := Lib.hid (Upd.store (v := v) (w := W2) r3 z3 (by rw [HOL.out, ← HSP.out]; exact hown) (by rw [hvb]; exact H2.out.ne) (asc_sub H2.out.asc (outR_sub lo hi l)) hch (.inl hvb))
  subst hv'
  clear hown hch hgp hvb
  go_wp2
  refine bodyPost_ret (v := .tuple #[.int .i64 (j - i : Nat), .int .i64 0]) ?_ rfl ⟨rfl, _, HU.out.after HN2.out⟩
  simp [results, Tryz.results149, go_sem]
end Go.Proofs.YtkikdpdainmlcaaGreat
namespace Go.Proofs.YtkikdpdainmlcaaGreat
open Go.RowKit Go.Xt
/-! The ordered map at any pairs: Next, Move. -/
theorem inR_head {lo hi : Int} (hlh : lo ≤ hi) {l : List (Int × Int)} (ha : asc l) : (inR lo hi l)[0]? = if pos lo l < posTo hi l then l[pos lo l]? else none := by
  rw [← (split_range hlh ha).1, List.getElem?_drop, List.getElem?_take]
  simp
def nextL (lo hi : Int) (l : List (Int × Int)) : Option (Int × Int) := (inR lo hi l)[0]?
set_option maxRecDepth 20000 in
set_option maxHeartbeats 4000000 in
theorem next_none {w : World} {gp : Nat} {v : Value} {l : List (Int × Int)} (h : OM w gp v l) (hn : l.length ≤ 1000000) (lo hi : Int) (hlh : lo ≤ hi) (hx : nextL lo hi l = none) :
    Calls Tryz.prog 151 #[.pointer (some ⟨gp, 0, none⟩), spV lo hi] w fun e w' => e = .returned (.tuple #[spV 0 0, .bool false, .int .i64 0]) ∧ Nw w w' := by
  haveI : In gp w := ⟨h.lt⟩
  have HE := Lib.hid (fun W (hw : Nw w W) => ends_om (h.nw hw) hn lo hi hlh)
  have hpe : posTo hi l = pos lo l := by
    have h1 := inR_head hlh h.asc
    have h2 := pos_le_to hlh h.asc
    have h3 := posTo_le hi l
    unfold nextL at hx
    rw [hx] at h1
    split at h1
    · rw [List.getElem?_eq_getElem (by omega)] at h1; cases h1
    · omega
  rw [hpe] at HE
  obtain ⟨i, hi'⟩ : ∃ i, i = pos lo l := ⟨_, rfl⟩
  simp only [← hi'] at HE
  unfold spV at HE ⊢
  clear h hlh hi' hpe hx
  go_enter Tryz.func151, Tryz.ntmps151
  go_wp2_with fail
  refine (HE.out _ (nwa)).mono ?_
  rintro e W2 ⟨rfl, d2, rfl⟩
  go_wp2
  refine bodyPost_ret (v := .tuple #[.agg #[.int .u64 0, .int .u64 0], .bool false, .int .i64 0]) ?_ rfl ⟨rfl, nwa⟩
  simp [results, Tryz.results151, go_sem]
set_option maxRecDepth 20000 in
set_option maxHeartbeats 4000000 in
theorem next_some {w : World} {gp : Nat} {v : Value} {l : List (Int × Int)} (h : OM w gp v l) (hn : l.length ≤ 1000000) (lo hi : Int) (hlh : lo ≤ hi) (k x : Int) (hx : nextL lo hi l = some (k, x)) :
    Calls Tryz.prog 151 #[.pointer (some ⟨gp, 0, none⟩), spV lo hi] w fun e w' => e = .returned (.tuple #[spV k x, .bool true, .int .i64 0]) ∧ Nw w w' := by
  haveI : In gp w := ⟨h.lt⟩
  have HE := Lib.hid (fun W (hw : Nw w W) => ends_om (h.nw hw) hn lo hi hlh)
  have hpe : pos lo l < posTo hi l ∧ l[pos lo l]? = some (k, x) := by
    have h1 := inR_head hlh h.asc
    unfold nextL at hx
    rw [hx] at h1
    split at h1
    · rename_i h2; exact ⟨h2, h1.symm⟩
    · cases h1
  have p0 := h.p0
  rcases h.form with ⟨rfl, rfl⟩ | ⟨g, c, rfl, -, -, -⟩
  · simp at hpe
  have c0 := (h.pat.at' _ _ hpe.2).1
  have c1 := (h.pat.at' _ _ hpe.2).2
  have hP := (List.getElem?_eq_some_iff.1 hpe.2).1
  haveI : In g w := ⟨World.block_lt_of_cell? w _ c0⟩
  obtain ⟨i, hi'⟩ : ∃ i, i = pos lo l := ⟨_, rfl⟩
  obtain ⟨j, hj'⟩ : ∃ j, j = posTo hi l := ⟨_, rfl⟩
  obtain ⟨n, hne⟩ : ∃ n, n = l.length := ⟨_, rfl⟩
  simp only [← hi', ← hj'] at HE hpe hP c0 c1
  rw [← hne] at hP p0
  have q0 : ((i : Int) == (j : Int)) = false := by simp; omega
  have q1 : (i : Int) < (n : Int) := by omega
  have q2 : (0 : Int) ≤ (i : Int) := by omega
  have q3 : ¬ i = j := by omega
  unfold spV at HE ⊢
  clear h hlh hi' hj' hne hpe hx
  go_enter Tryz.func151, Tryz.ntmps151
  go_wp2_with fail
  refine (HE.out _ (nwa)).mono ?_
  rintro e W2 ⟨rfl, d2, rfl⟩
  go_wp2
  refine bodyPost_ret (v := .tuple #[.agg #[.int .u64 k, .int .u64 x], .bool true, .int .i64 0]) ?_ rfl ⟨rfl, nwa⟩
  simp [results, Tryz.results151, go_sem]
def mvL (b : Int) (r l : List (Int × Int)) : List (Int × Int) := r.foldl (fun m p => putL (p.1 + b) p.2 m) l
def moveL (lo hi b : Int) (l : List (Int × Int)) : List (Int × Int) := mvL b (inR lo hi l) (outR lo hi l)
theorem mvL_snoc (b : Int) (r l : List (Int × Int)) (p : Int × Int) : mvL b (r ++ [p]) l = putL (p.1 + b) p.2 (mvL b r l) := by simp [mvL]
theorem mvL_len (b : Int) : ∀ (r l : List (Int × Int)), (mvL b r l).length ≤ l.length + r.length
  | [], l => Nat.le_refl _
  | p :: r, l => by
    have h1 := mvL_len b r (putL (p.1 + b) p.2 l)
    have h2 := put_le (p.1 + b) p.2 l
    show (mvL b r (putL (p.1 + b) p.2 l)).length ≤ _
    simp; omega
theorem mvL_asc (b : Int) : ∀ (r l : List (Int × Int)), asc l → asc (mvL b r l)
  | [], l, h => h
  | p :: r, l, h => mvL_asc b r _ (put_asc _ _ h)
theorem filter_two {α : Type} (p : α → Bool) (l : List α) : (l.filter fun x => !p x).length + (l.filter p).length = l.length := by
  induction l with
  | nil => rfl
  | cons x l ih => cases hp : p x <;> simp [List.filter_cons, hp] <;> omega
theorem outR_inR (lo hi : Int) (l : List (Int × Int)) : (outR lo hi l).length + (inR lo hi l).length = l.length := filter_two _ _
def U64s (l : List (Int × Int)) : Prop := ∀ p ∈ l, (0 ≤ p.1 ∧ p.1 < 18446744073709551616) ∧ 0 ≤ p.2 ∧ p.2 < 18446744073709551616
set_option maxRecDepth 20000 in
set_option maxHeartbeats 4000000 in
theorem move_nil {w : World} {gp : Nat} (h : OM w gp (.slice none 0 0) []) (lo hi by_ : Int) (hlh : lo ≤ hi) (hlo : 0 ≤ lo) (hb0 : 0 < by_) (hb1 : by_ ≤ 18446744073709551615 - hi) :
    Calls Tryz.prog 147 #[.pointer (some ⟨gp, 0, none⟩), spV lo hi, .int .u64 by_] w fun e w' => e = .returned (.tuple #[.int .i64 0, .int .i64 0]) ∧ ∃ v', Upd w gp (.slice none 0 0) [] v' w' := by
  haveI : In gp w := ⟨h.lt⟩
  have p0 := h.p0
  have z0 := h.pz
  have HE := Lib.hid (fun W (hw : Nw w W) => ends_om (h.nw hw) (by simp) lo hi hlh)
  have q1 : (by_ == 0) = false := by simp; omega
  have q2 : ¬ by_ = 0 := by omega
  have q3 : IntKind.u64.wrap (18446744073709551615 - hi) = 18446744073709551615 - hi := by rw [IntKind.wrap_u64]; omega
  have q4 : decide (18446744073709551615 - hi < by_) = false := by simp; omega
  have HH := Lib.hid h
  have HCN := Lib.hid (fun W => clone_any none 0 0 [] W ⟨rfl, fun h => by omega⟩ (by omega) (fun _ => ⟨rfl, rfl⟩))
  have HDN := Lib.hid delete_nil
  have e1 : pos lo [] = 0 := rfl
  have e2 : posTo hi [] = 0 := rfl
  rw [e1, e2] at HE
  unfold spV at HE ⊢
  clear h hlh hlo hb0 hb1 e1 e2
  go_enter Tryz.func147, Tryz.ntmps147
  go_wp2_with fail
  refine (HE.out _ (nwa)).mono ?_
  rintro e W2 ⟨rfl, d2, rfl⟩
  go_wp2_with fail
  refine (HCN.out _).mono ?_
  rintro e W3 ⟨vC, rfl, hown, d3, rfl⟩
  obtain ⟨A, cC, hvC⟩ : ∃ A cC, vC = .slice A 0 cC := by
    rcases own_forms hown with ⟨rfl, _⟩ | ⟨g, c, rfl, _⟩
    · exact ⟨_, _, rfl⟩
    · exact ⟨_, _, rfl⟩
  subst hvC
  clear hown
  go_wp2_with fail
  refine (HDN.out _).mono ?_
  rintro e W4 ⟨rfl, hn4⟩
  have hn4 : Nw w W4 := Nw.trans (by exact nwa) hn4
  have r0 := cell_nw p0 hn4
  have rz := (frozen_nw HH.out.lt hn4).trans z0
  have hu : Upd W4 gp (.slice none 0 0) [] (.slice none 0 0) (W4.setCell ⟨gp, 0, none⟩ (.slice none 0 0)) :=
    Upd.store r0 rz (World.ownsRow_nil _ _ _ _) (by simp [Value.ownBlock]) List.Pairwise.nil ((Chg.of_nw (Nw.refl W4) : Chg [] W4 W4).wide (by simp)) (.inl rfl)
  have HU := Lib.hid (hu.after hn4)
  clear hu hn4
  go_wp2
  go_loopw [54] (fun a wr => a = .int .i64 0 ∧ wr = W4.setCell ⟨gp, 0, none⟩ (.slice none 0 0)) (fun _ _ => 0)
  case atStart => exact ⟨rfl, rfl⟩
  case round =>
    obtain ⟨rfl, rfl⟩ := hrel
    go_wp2
    refine bodyPost_ret (v := .tuple #[.int .i64 0, .int .i64 0]) ?_ rfl ⟨rfl, _, HU.out⟩
    simp [results, Tryz.results147, go_sem]
end Go.Proofs.YtkikdpdainmlcaaGreat
