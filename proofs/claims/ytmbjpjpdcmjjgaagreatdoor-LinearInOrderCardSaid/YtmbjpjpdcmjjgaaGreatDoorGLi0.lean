import Derived.Test.YtmbjpjpdcmjjgaaGreatDoorGNh
import Derived.Test.YtmbjpjpdcmjjgaaGreatDoorGKo
import Derived.Test.YtmbjpjpdcmjjgaaGreatDoorGOd
import Derived.Maps.AppendAt
import Derived.Test.YtmbjpjpdcmjjgaaGreatDoorGLib
import Derived.Test.YtmbjpjpdcmjjgaaGreatDoorGVe
set_option linter.unusedVariables false
set_option linter.unusedSimpArgs false
set_option linter.unnecessarySimpa false
namespace Go.Proofs.YtmbjpjpdcmjjgaaGreatDoor
open Go.RowKit Go.Xt
/-! Helpers of the laws LinearWitness and LinearInOrder. -/
theorem In2.in3 {w : World} {c : Cf} {cuts : List Nat} {A : Option Addr} {n cap : Nat} {l : List Cl} (h : In2 w c cuts A n cap l) : In3 w c cuts A n cap l := ⟨h.rd, h.cn, h.eng, h.n1, h.nc, h.cap_, h.hl, h.wf⟩
set_option maxHeartbeats 2000000 in
theorem few10_any (A : Option Addr) (n c : Nat) (l : List Cl) (w : World) (hnc : n ≤ c) (hc : c ≤ 9223372036854775807) (hl : Cs w A n l) :
    Calls Tryz.prog 6 #[.slice A n c, .int .i64 10] w fun e w' => ∃ v, e = .returned v ∧ OwnC w' w.heap.size v (l.take 10) ∧ Nw w w' := by
  have HL := Lib.hid hl
  have hlen := hl.1
  clear hl
  by_cases h40 : n ≤ 10
  · have hcc := copyCalls_any A n c l w (by omega) HL.out
    have hmin : min (n : Int) 10 = n := by omega
    go_enter Tryz.func6, Tryz.ntmps6
    go_wp2_with (go_at_call 15; refine hcc.mono ?_; rintro e w' ⟨v, rfl, hv, dW, rfl⟩)
    have h' : OwnC (w.ext none dW) w.heap.size v (l.take 10) := by rw [List.take_of_length_le (by omega)]; exact hv
    refine bodyPost_ret (results_tmp rfl _ _ _) rfl ⟨v, rfl, h', nwa⟩
  · have hmin : min (n : Int) 10 = 10 := by omega
    have hcc := copyCalls_any A 10 c (l.take 10) w (by omega) (HL.out.take (by omega))
    go_enter Tryz.func6, Tryz.ntmps6
    go_wp2_with (go_at_call 15; refine hcc.mono ?_; rintro e w' ⟨v, rfl, hv, dW, rfl⟩)
    refine bodyPost_ret (results_tmp rfl _ _ _) rfl ⟨v, rfl, hv, nwa⟩
set_option maxHeartbeats 2000000 in
theorem few8_any (A : Option Addr) (n c : Nat) (l : List Cl) (w : World) (hnc : n ≤ c) (hc : c ≤ 9223372036854775807) (hl : Cs w A n l) :
    Calls Tryz.prog 6 #[.slice A n c, .int .i64 8] w fun e w' => ∃ v, e = .returned v ∧ OwnC w' w.heap.size v (l.take 8) ∧ Nw w w' := by
  have HL := Lib.hid hl
  have hlen := hl.1
  clear hl
  by_cases h40 : n ≤ 8
  · have hcc := copyCalls_any A n c l w (by omega) HL.out
    have hmin : min (n : Int) 8 = n := by omega
    go_enter Tryz.func6, Tryz.ntmps6
    go_wp2_with (go_at_call 15; refine hcc.mono ?_; rintro e w' ⟨v, rfl, hv, dW, rfl⟩)
    have h' : OwnC (w.ext none dW) w.heap.size v (l.take 8) := by rw [List.take_of_length_le (by omega)]; exact hv
    refine bodyPost_ret (results_tmp rfl _ _ _) rfl ⟨v, rfl, h', nwa⟩
  · have hmin : min (n : Int) 8 = 8 := by omega
    have hcc := copyCalls_any A 8 c (l.take 8) w (by omega) (HL.out.take (by omega))
    go_enter Tryz.func6, Tryz.ntmps6
    go_wp2_with (go_at_call 15; refine hcc.mono ?_; rintro e w' ⟨v, rfl, hv, dW, rfl⟩)
    refine bodyPost_ret (results_tmp rfl _ _ _) rfl ⟨v, rfl, hv, nwa⟩
theorem ord_two {w : World} {c : Cf} {cuts : List Nat} {l : List Cl} {e : Ending} {w' : World} (h : OrdP w c cuts l e w') :
    Nw w w' ∧ ((∃ er : Int, er ≠ 0 ∧ e = .returned (.tuple #[.slice none 0 0, .int .i64 er])) ∨
      (∃ out v o, wX c cuts l = .ok out ∧ badR out l 0 = none ∧ e = .returned (.tuple #[v, .int .i64 0]) ∧ OwnI w' w.heap.size v (natI o) ∧ WOrd out l o)) := by
  unfold OrdP at h
  obtain ⟨hn, h⟩ := h
  refine ⟨hn, ?_⟩
  cases hX : wX c cuts l with
  | error z =>
    rw [hX] at h
    exact .inl ⟨z.2, wX_err hX, h⟩
  | ok out =>
    rw [hX] at h
    simp only at h
    cases hR : badR out l 0 with
    | some i => rw [hR] at h; exact .inl ⟨18, by decide, h⟩
    | none =>
      rw [hR] at h
      obtain ⟨v, o, h1, h2, h3⟩ := h
      exact .inr ⟨out, v, o, rfl, hR, h1, h2, h3⟩
theorem wit_valid {c : Cf} {cuts : List Nat} {l : List Cl} {maps : List Sta} (hw : wX c cuts l = .ok maps) (hR : badR maps l 0 = none) {o : List Nat} (h : WOrd maps l o) (hl : l.length ≤ 10) : validE c cuts (natI o) l = 0 := by
  obtain ⟨h1, h2, -⟩ := wX_ok hw
  refine valid_zero.2 ⟨?_, o, rfl, wit_lin hw hR h⟩
  unfold begE
  rw [if_neg (by omega), if_neg (by rw [h2]; simp), if_neg (by omega)]
theorem wf_natL {i : Nat} (h : i ≤ 1000000) : (Lit.int .i64 (i : Int)).wf = true := by simp [Lit.wf, IntKind.min, IntKind.max, IntKind.bits, IntKind.signed]; omega
-- the calls of LinearInOrder
def thN (x : Cl) : Nat := (Int.tmod (Int.tmod x.th 64 + 64) 64).toNat
theorem thN_eq (x : Cl) : IntKind.i64.wrap (Int.tmod x.th 64) = Int.tmod x.th 64 ∧ IntKind.i64.wrap (Int.tmod x.th 64 + 64) = Int.tmod x.th 64 + 64 ∧ IntKind.i64.wrap (Int.tmod (Int.tmod x.th 64 + 64) 64) = Int.tmod (Int.tmod x.th 64 + 64) 64 ∧ Int.tmod (Int.tmod x.th 64 + 64) 64 = (thN x : Int) ∧ thN x < 64 := by
  have h1 := Int.tmod_lt_of_pos x.th (show (0 : Int) < 64 by omega)
  have h2 := Int.lt_tmod_of_pos x.th (show (0 : Int) < 64 by omega)
  have h3 := Int.tmod_lt_of_pos (Int.tmod x.th 64 + 64) (show (0 : Int) < 64 by omega)
  have h4 : 0 ≤ Int.tmod (Int.tmod x.th 64 + 64) 64 := Int.tmod_nonneg _ (by omega)
  unfold thN
  exact ⟨by rw [IntKind.wrap_i64]; omega, by rw [IntKind.wrap_i64]; omega, by rw [IntKind.wrap_i64]; omega, by omega, by omega⟩
def inC (k : Nat) (q : Int) (x : Cl) : Cl := ⟨(thN x : Int), q, x.kd, x.ka, x.kb, x.kc, x.kx, x.ky, x.kz, 2 * (k : Int), 2 * (k : Int) + 1, 2 * (k : Int) + 1, 2, x.re, x.rf, x.rk, x.rv, x.rc⟩
def inM (l : List Cl) : Nat → List Cl
  | 0 => []
  | k + 1 => match l[k]? with
    | some x => inM l k ++ [inC k (((ofT (thN x : Int) (inM l k)).length : Nat) : Int) x]
    | none => inM l k
theorem inM_succ {l : List Cl} {k : Nat} {x : Cl} (hx : l[k]? = some x) : inM l (k + 1) = inM l k ++ [inC k (((ofT (thN x : Int) (inM l k)).length : Nat) : Int) x] := by rw [inM, hx]
theorem inM_len (l : List Cl) : ∀ k, k ≤ l.length → (inM l k).length = k
  | 0, _ => rfl
  | k + 1, h => by
    rw [inM_succ (List.getElem?_eq_getElem (show k < l.length by omega)), List.length_append, inM_len l k (by omega)]; rfl
theorem inM_set {l : List Cl} {k : Nat} {x : Cl} (hx : l[k]? = some x) : (inM l k ++ l.drop k).set k (inC k (((ofT (thN x : Int) (inM l k)).length : Nat) : Int) x) = inM l (k + 1) ++ l.drop (k + 1) := by
  obtain ⟨p, e⟩ := List.getElem?_eq_some_iff.1 hx
  rw [inM_succ hx, List.set_append_right _ _ (by rw [inM_len l k (by omega)]; exact Nat.le_refl _), inM_len l k (by omega), Nat.sub_self, List.drop_eq_getElem_cons p, List.set_cons_zero, List.append_assoc]
  rfl
theorem inM_at {l : List Cl} {k : Nat} {x : Cl} (hx : l[k]? = some x) : (inM l k ++ l.drop k)[k]? = some x := by
  obtain ⟨p, e⟩ := List.getElem?_eq_some_iff.1 hx
  rw [List.getElem?_append_right (by rw [inM_len l k (by omega)]; exact Nat.le_refl _), inM_len l k (by omega), Nat.sub_self, List.getElem?_drop, Nat.add_zero, hx]
theorem isnoc_get {h : List Cl} {x y : Cl} {i : Nat} (hy : (h ++ [x])[i]? = some y) : (h[i]? = some y ∧ i < h.length ∧ (h ++ [x]).take i = h.take i) ∨ (i = h.length ∧ y = x ∧ (h ++ [x]).take i = h) := by
  by_cases hi : i < h.length
  · left
    rw [List.getElem?_append_left hi] at hy
    exact ⟨hy, hi, List.take_append_of_le_length (by omega)⟩
  · right
    have h1 := (List.getElem?_eq_some_iff.1 hy).1
    simp at h1
    obtain rfl : i = h.length := by omega
    rw [List.getElem?_append_right (by omega)] at hy
    simp at hy
    exact ⟨rfl, hy.symm, by simp⟩
theorem inM_ok (l : List Cl) : ∀ k, k ≤ l.length → InO (inM l k)
  | 0, _ => ⟨fun i x h => by simp [inM] at h, fun i x h => by simp [inM] at h, fun i x h => by simp [inM] at h⟩
  | k + 1, h => by
    have ih := inM_ok l k (by omega)
    have hx := List.getElem?_eq_getElem (l := l) (show k < l.length by omega)
    obtain ⟨x, hxe⟩ : ∃ x, x = l[k] := ⟨_, rfl⟩
    rw [← hxe] at hx
    rw [inM_succ hx]
    have hlen := inM_len l k (by omega)
    have ht := (thN_eq x).2.2.2.2
    refine ⟨fun i y hy => ?_, fun i y hy => ?_, fun i y hy => ?_⟩ <;> rcases isnoc_get hy with ⟨h4, -, h5⟩ | ⟨h4, h6, h5⟩
    · exact ih.inv i y h4
    · subst h6; rw [h4, hlen]; exact ⟨rfl, rfl, rfl, rfl⟩
    · rw [h5]; exact ih.ix i y h4
    · rw [h5]; subst h6; rfl
    · exact ih.th i y h4
    · subst h6; exact ⟨by show (0 : Int) ≤ (thN x : Int); omega, by show (thN x : Int) < 64; omega⟩
theorem inM_wf {l : List Cl} (hw : ∀ y ∈ l, WfX y) (hl : l.length ≤ 1000) : ∀ k, k ≤ l.length → ∀ y ∈ inM l k, WfX y
  | 0, _, y, hy => by simp [inM] at hy
  | k + 1, h, y, hy => by
    have hx := List.getElem?_eq_getElem (l := l) (show k < l.length by omega)
    obtain ⟨x, hxe⟩ : ∃ x, x = l[k] := ⟨_, rfl⟩
    rw [← hxe] at hx
    rw [inM_succ hx] at hy
    rcases List.mem_append.1 hy with h1 | h1
    · exact inM_wf hw hl k (by omega) y h1
    · simp only [List.mem_cons, List.not_mem_nil, or_false] at h1
      subst h1
      have hwx := hw x (List.mem_of_getElem? hx)
      have ht := (thN_eq x).2.2.2.2
      have hq : ((ofT (thN x : Int) (inM l k)).length : Nat) ≤ (inM l k).length := List.length_filter_le _ _
      rw [inM_len l k (by omega)] at hq
      exact ⟨⟨⟨by show _ ≤ (thN x : Int); omega, by show (thN x : Int) ≤ _; omega⟩, ⟨by show _ ≤ (((ofT (thN x : Int) (inM l k)).length : Nat) : Int); omega, by show (((ofT (thN x : Int) (inM l k)).length : Nat) : Int) ≤ _; omega⟩, ⟨by show _ ≤ 2 * (k : Int); omega, by show 2 * (k : Int) ≤ _; omega⟩, ⟨by show _ ≤ 2 * (k : Int) + 1; omega, by show 2 * (k : Int) + 1 ≤ _; omega⟩, ⟨by show _ ≤ 2 * (k : Int) + 1; omega, by show 2 * (k : Int) + 1 ≤ _; omega⟩, ⟨by show _ ≤ (2 : Int); omega, by show (2 : Int) ≤ _; omega⟩⟩, hwx.op, hwx.rk⟩
def cntL (h : List Cl) (n : Nat) : List Value := (List.range n).map fun (t : Nat) => Value.int .i64 (((ofT (t : Int) h).length : Nat) : Int)
theorem cntL_len (h : List Cl) (n : Nat) : (cntL h n).length = n := by simp [cntL]
theorem cntL_get {h : List Cl} {n t : Nat} (ht : t < n) : (cntL h n)[t]? = some (.int .i64 (((ofT (t : Int) h).length : Nat) : Int)) := by
  unfold cntL; rw [List.getElem?_map, List.getElem?_range ht]; rfl
theorem cntL_snoc {h : List Cl} {n t : Nat} {x : Cl} (hx : x.th = (t : Int)) (ht : t < n) : (cntL h n).set t (.int .i64 ((((ofT (t : Int) h).length : Nat) : Int) + 1)) = cntL (h ++ [x]) n := by
  apply List.ext_getElem?
  intro i
  by_cases hi : i < n
  · rw [cntL_get hi]
    by_cases e : t = i
    · subst e
      rw [List.getElem?_set_self (by rw [cntL_len]; exact ht)]
      unfold ofT
      rw [List.filter_append, List.filter_cons_of_pos (by rw [hx]; simp)]
      simp
    · rw [List.getElem?_set_ne e, cntL_get hi]
      unfold ofT
      rw [List.filter_append, List.length_append]
      rw [List.filter_cons_of_neg (by rw [hx]; simp; omega)]; simp
  · rw [List.getElem?_eq_none (by rw [List.length_set, cntL_len]; omega), List.getElem?_eq_none (by rw [cntL_len]; omega)]
theorem make_ints (w : World) (n : Nat) (hn : n ≤ 1000) : ∃ w', (Instr.makeSlice 31 (.int .i64 (n : Int)) (.int .i64 (n : Int))).run Tryz.prog w = .ok (.slice (some ⟨w.heap.size, 0, none⟩) n n) w' ∧ w'.ownsRow w.heap.size 3 1 (.slice (some ⟨w.heap.size, 0, none⟩) n n) n (cntL [] n) ∧ Nw w w' := by
  obtain ⟨i, hi1, hz0, hz1, hz2⟩ := info_parts intInfo
  obtain ⟨w', h1, h2, h3⟩ := run_make_full w w.heap.size 31 3 i (.int .i64 0) 1 Tryz.underlying31 hi1 hz0 hz1 .i64 .i64 n (by rw [hz2]; omega) (by unfold maxLen; omega) (Nat.le_refl _)
  refine ⟨w', h1, ?_, .of h3⟩
  have e : (madeCells (Value.int .i64 0).cells (n * 1)).toList = cntL [] n := by
    have : (madeCells (Value.int .i64 0).cells (n * 1)).toList = List.replicate (n * 1) (.int .i64 0) := toList_madeCells_one _ _
    rw [this]
    apply List.ext_getElem?
    intro j
    by_cases hj : j < n
    · rw [cntL_get hj, List.getElem?_replicate, if_pos (by omega)]; rfl
    · rw [List.getElem?_eq_none (by simp; omega), List.getElem?_eq_none (by rw [cntL_len]; omega)]
  rw [e] at h2
  exact h2
theorem store_call {W : World} {b o : Nat} (c : Cl) (h : W.there b o 18) : (storeCall (.pointer (some ⟨b, o, none⟩)) (cv c)).run Tryz.prog W = .ok () (W.setCells b o (cl c)) :=
  run_storeAt_mid W b o 39 (cl c).toArray h sizeCall (all_oneCell_toArray (cl_one c))
theorem chg_cells (W : World) (b o : Nat) (vs : List Value) : Chg [b] W (W.setCells b o vs) := by
  have h := wrote_setCells b vs o W W (Wrote.refl _ _)
  exact ⟨h.os, h.tape, h.output, Nat.le_of_eq h.size.symm, fun k _ hk => h.others k (by simpa using hk)⟩
theorem cs_setC {W : World} {b n i : Nat} {l : List Cl} (c' : Cl) (h : Cs W (some ⟨b, 0, none⟩) n l) (hi : i < n) : Cs (W.setCells b (i * 18) (cl c')) (some ⟨b, 0, none⟩) n (l.set i c') := by
  obtain ⟨b', o', e, hb, hcs⟩ := h.2 (by omega)
  obtain ⟨rfl, rfl⟩ : b = b' ∧ 0 = o' := by simpa using e
  have hlen := h.1
  have hch : Chg [b] W (W.setCells b (i * 18) (cl c')) := chg_cells W b _ _
  refine ⟨by rw [List.length_set]; exact h.1, fun _ => ⟨b, 0, rfl, Nat.lt_of_lt_of_le hb hch.size, fun k z hz => AtC.of_range fun q u hu => ?_⟩⟩
  have hq : q < 18 := (List.getElem?_eq_some_iff.1 hu).1
  rw [List.getElem?_set] at hz
  have hall : ∀ j, j < (cl c').length → (W.cell? ⟨b, i * 18 + j, none⟩).isSome = true := fun j hj => by
    have hj : j < 18 := hj
    have := (hcs i _ (List.getElem?_eq_getElem (by omega))).range j _ (List.getElem?_eq_getElem (show j < (cl _).length from hj))
    rw [show 0 + i * 18 + j = i * 18 + j by omega] at this
    rw [this]; rfl
  by_cases hk : i = k
  · subst hk
    rw [if_pos rfl, if_pos (by omega)] at hz
    have hz := Option.some.inj hz
    subst hz
    rw [show 0 + i * 18 + q = i * 18 + q by omega, World.cell?_setCells_in b (cl c') (i * 18) W hall q hq]
    obtain ⟨_, e2⟩ := List.getElem?_eq_some_iff.1 hu
    rw [e2]
  · rw [if_neg hk] at hz
    rw [World.cell?_setCells_out b (cl c') (i * 18) W _ (fun _ _ => by
      have : (cl c').length = 18 := rfl
      simp only [this]
      omega)]
    exact (hcs k z hz).range q u hu
def ocells (o : Ox) : List Value := [.int .u8 o.k, .int .u64 o.key, .int .u64 o.hi, .int .u64 o.val, .int .u64 o.old, .int .u64 o.by_, .int .u64 o.draw]
def rcells (r : Rs) : List Value := [.int .i64 r.err, .bool r.fd, .int .u64 r.key, .int .u64 r.val, .int .i64 r.cnt]
theorem sizeOp : (Tryz.prog.info? 34).map (·.size) = some 7 := by kernel_rfl
theorem sizeRes : (Tryz.prog.info? 37).map (·.size) = some 5 := by kernel_rfl
def loadOp (p : Value) : Sem Value := Instr.loadAt 34 p
@[go_sem ↓] theorem loadOp_in (p : Value) : Instr.loadAt 34 p = loadOp p := rfl
theorem run_loadOp {w : World} {b q : Nat} {o : Ox} (h : w.rangeAt b q (ocells o)) : (loadOp (.pointer (some ⟨b, q, none⟩))).run Tryz.prog w = .ok (.agg #[.int .u8 o.k, .int .u64 o.key, .int .u64 o.hi, .int .u64 o.val, .int .u64 o.old, .int .u64 o.by_, .int .u64 o.draw]) w :=
  run_loadAt_mid w b q 34 (ocells o) _ h Tryz.underlying34 rfl sizeOp
def loadRes (p : Value) : Sem Value := Instr.loadAt 37 p
@[go_sem ↓] theorem loadRes_in (p : Value) : Instr.loadAt 37 p = loadRes p := rfl
theorem run_loadRes {w : World} {b q : Nat} {r : Rs} (h : w.rangeAt b q (rcells r)) : (loadRes (.pointer (some ⟨b, q, none⟩))).run Tryz.prog w = .ok (.agg #[.int .i64 r.err, .bool r.fd, .int .u64 r.key, .int .u64 r.val, .int .i64 r.cnt]) w :=
  run_loadAt_mid w b q 37 (rcells r) _ h Tryz.underlying37 rfl sizeRes
theorem AtC.opr {w : World} {b o : Nat} {x : Cl} (h : AtC w b o x) : w.rangeAt b (o + 2) (ocells (opC x)) := fun j v hv => by
  have hj : j < 7 := (List.getElem?_eq_some_iff.1 hv).1
  have := h.range (2 + j) v (by
    rcases (by omega : j = 0 ∨ j = 1 ∨ j = 2 ∨ j = 3 ∨ j = 4 ∨ j = 5 ∨ j = 6) with rfl | rfl | rfl | rfl | rfl | rfl | rfl <;> exact hv)
  rw [show o + 2 + j = o + (2 + j) by omega]; exact this
theorem AtC.rsr {w : World} {b o : Nat} {x : Cl} (h : AtC w b o x) : w.rangeAt b (o + 13) (rcells (rsC x)) := fun j v hv => by
  have hj : j < 5 := (List.getElem?_eq_some_iff.1 hv).1
  have := h.range (13 + j) v (by
    rcases (by omega : j = 0 ∨ j = 1 ∨ j = 2 ∨ j = 3 ∨ j = 4) with rfl | rfl | rfl | rfl | rfl <;> exact hv)
  rw [show o + 13 + j = o + (13 + j) by omega]; exact this
theorem lessL_irrefl : ∀ a : List Int, lessL a a = false
  | [] => rfl
  | x :: a => by rw [lessL, if_pos rfl]; exact lessL_irrefl a
theorem exts_nodup (l : List Cl) (f : Nat) (o : List Nat) (s : Md) : (exts l f o s).Nodup :=
  (exts_less l f o s).imp (fun {a b} h e => by subst e; rw [lessL_irrefl] at h; cases h)
theorem count50e {c : Cf} {cuts : List Nat} {l : List Cl} : countE c cuts 50 l = begE c cuts l := by
  unfold countE
  by_cases h : begE c cuts l = 0
  · rw [if_pos h, if_neg (by decide), h]
  · rw [if_neg h]
theorem hcf2_at {w w' : World} {b : Nat} {c : Cf} (h : ConfAt w b c) (hn : Nw w w') : ConfAt w' b c := h.nw hn
theorem ino_all {c : Cf} {cuts : List Nat} {h : List Cl} (hi : InO h) (hl : h.length ≤ 8) :
    (∃ er : Int, er ≠ 0 ∧ begE c cuts h = er ∧ findO c cuts h = none ∧ countN c cuts 50 h = 0 ∧ (wChk c cuts h).2 ≠ 0) ∨
    (begE c cuts h = 0 ∧ findO c cuts h = some (List.range h.length) ∧ countN c cuts 50 h = 1 ∧ (wChk c cuts h).2 = 0) ∨
    (begE c cuts h = 0 ∧ findO c cuts h = none ∧ countN c cuts 50 h = 0 ∧ (wChk c cuts h).2 ≠ 0) := by
  by_cases hc : chkC c cuts = 0
  · have hb : begE c cuts h = 0 := by unfold begE; rw [if_neg (by omega), if_neg (by rw [hi.bad]; simp), if_neg (by omega)]
    have hw := hi.wit (cuts := cuts) hc
    have hlin : linsM c h = if (runM h (s1M c) (List.range h.length)).isSome = true then [List.range h.length] else [] := hi.lins (s1M c) (exts_nodup h _ _ _)
    have hce : countE c cuts 50 h = 0 := by unfold countE; rw [if_pos hb, if_neg (by decide)]
    right
    cases hr : (runM h (s1M c) (List.range h.length)).isSome with
    | true =>
      rw [hr] at hlin hw
      rw [if_pos rfl] at hlin
      exact .inl ⟨hb, by unfold findO; rw [if_pos hb, hlin]; rfl, by unfold countN; rw [if_pos hce, hlin]; rfl, hw.2 rfl⟩
    | false =>
      rw [hr] at hlin hw
      rw [if_neg (by simp)] at hlin
      exact .inr ⟨hb, by unfold findO; rw [if_pos hb, hlin]; rfl, by unfold countN; rw [if_pos hce, hlin]; rfl, fun e => by have := hw.1 e; cases this⟩
  · have h2 : chkC c cuts = 2 := (chk_two c cuts).resolve_left hc
    have hb : begE c cuts h = 2 := by unfold begE; rw [if_pos (by omega)]
    have hce : countE c cuts 50 h = 2 := by unfold countE; rw [if_neg (by omega), hb]
    left
    refine ⟨2, by decide, hb, by unfold findO; rw [if_neg (by omega)], by unfold countN; rw [if_neg (by omega)], ?_⟩
    unfold wChk wX
    rw [if_pos hc]
    show (2 : Int) ≠ 0
    decide
structure IS (w : World) (A : Option Addr) (n gc : Nat) (l hc : List Cl) (v : Value) (k : Nat) (W : World) : Prop where
  nw : Nw w W
  cs : Cs W A n l
  fz : ∀ b o q, A = some ⟨b, o, none⟩ → W.frozen? ⟨b, q, none⟩ = false
  ab : ∀ b o, A = some ⟨b, o, none⟩ → w.heap.size ≤ b ∧ b < W.heap.size ∧ o = 0 ∧ b ≠ gc ∧ v.ownBlock ≠ some b
  cnt : W.ownsRow w.heap.size 3 1 (.slice (some ⟨gc, 0, none⟩) 64 64) 64 (cntL hc 64)
  row : W.ownsRow w.heap.size 3 1 v k (ints (natI (List.range k)))
  rv : v.ownBlock ≠ some gc
section
variable {w W W' : World} {A : Option Addr} {n gc k : Nat} {l hc : List Cl} {v : Value}
theorem IS.gct (H : IS w A n gc l hc v k W) : w.heap.size ≤ gc ∧ gc < W.heap.size := World.ownsRow.lt H.cnt gc rfl
theorem IS.grow (H : IS w A n gc l hc v k W) (hn : Nw W W') : IS w A n gc l hc v k W' :=
  { nw := H.nw.trans hn, cs := H.cs.nw hn, fz := fun b o q e => (frozen_nw (H.ab b o e).2.1 hn).trans (H.fz b o q e)
    ab := fun b o e => ⟨(H.ab b o e).1, Nat.lt_of_lt_of_le (H.ab b o e).2.1 hn.grown.size, (H.ab b o e).2.2⟩
    cnt := own_nw H.cnt hn, row := own_nw H.row hn, rv := H.rv }
theorem IS.put {g i : Nat} (H : IS w (some ⟨g, 0, none⟩) n gc l hc v k W) (hi : i < n) (c' : Cl) : IS w (some ⟨g, 0, none⟩) n gc (l.set i c') hc v k (W.setCells g (i * 18) (cl c')) := by
  have hch := chg_cells W g (i * 18) (cl c')
  obtain ⟨a1, a2, a3, a4, a5⟩ := H.ab g 0 rfl
  exact { nw := nw_chg2 H.nw hch (fun q hq => by simp at hq; subst hq; exact a1), cs := cs_setC c' H.cs hi
          fz := fun b o q e => by cases e; exact (World.frozen?_setCells g (cl c') (i * 18) W _).trans (H.fz g 0 q rfl)
          ab := fun b o e => by cases e; exact ⟨a1, Nat.lt_of_lt_of_le a2 hch.size, rfl, a4, a5⟩
          cnt := own_chg H.cnt hch (fun q hq e => by cases hq; simp at e; exact a4 e.symm)
          row := own_chg H.row hch (fun q hq e => by simp at e; subst e; exact a5 hq), rv := H.rv }
theorem IS.count (H : IS w A n gc l hc v k W) {t : Nat} {x : Cl} (ht : t < 64) (hx : x.th = (t : Int)) : IS w A n gc l (hc ++ [x]) v k (W.setCell ⟨gc, t, none⟩ (.int .i64 ((((ofT (t : Int) hc).length : Nat) : Int) + 1))) := by
  have hch : Chg [gc] W (W.setCell ⟨gc, t, none⟩ (.int .i64 ((((ofT (t : Int) hc).length : Nat) : Int) + 1))) := Chg.set1 W gc t _
  have h2 := (H.cnt.stored t (.int .i64 ((((ofT (t : Int) hc).length : Nat) : Int) + 1))).1
  rw [cntL_snoc hx ht] at h2
  exact { nw := nw_chg2 H.nw hch (fun q hq => by simp at hq; subst hq; exact H.gct.1), cs := H.cs.chg hch (fun b o e => by simp; exact (H.ab b o e).2.2.2.1)
          fz := fun b o q e => (hch.frozen (H.ab b o e).2.1 (by simp; exact (H.ab b o e).2.2.2.1)).trans (H.fz b o q e)
          ab := fun b o e => ⟨(H.ab b o e).1, Nat.lt_of_lt_of_le (H.ab b o e).2.1 hch.size, (H.ab b o e).2.2⟩
          cnt := h2, row := own_chg H.row hch (fun q hq e => by simp at e; subst e; exact H.rv hq), rv := H.rv }
theorem IS.push (H : IS w A n gc l hc v k W) {v' : Value} (hr : W'.ownsRow w.heap.size 3 1 v' (k + 1) (ints (natI (List.range (k + 1))))) (hch : Chg v.ownBlock.toList W W') (hm : ∀ q, v'.ownBlock = some q → v.ownBlock = some q ∨ W.heap.size ≤ q) : IS w A n gc l hc v' (k + 1) W' :=
  { nw := nw_chg2 H.nw hch (fun g hg => by rw [Option.mem_toList] at hg; exact (World.ownsRow.lt H.row g hg).1)
    cs := H.cs.chg hch (fun b o e hm => by rw [Option.mem_toList] at hm; exact (H.ab b o e).2.2.2.2 hm)
    fz := fun b o q e => (hch.frozen (H.ab b o e).2.1 (fun hm => by rw [Option.mem_toList] at hm; exact (H.ab b o e).2.2.2.2 hm)).trans (H.fz b o q e)
    ab := fun b o e => ⟨(H.ab b o e).1, Nat.lt_of_lt_of_le (H.ab b o e).2.1 hch.size, (H.ab b o e).2.2.1, (H.ab b o e).2.2.2.1, fun hb => (hm b hb).elim (H.ab b o e).2.2.2.2 (fun h => by have := (H.ab b o e).2.1; omega)⟩
    cnt := own_chg H.cnt hch (fun q hq e => by cases hq; rw [Option.mem_toList] at e; exact H.rv e)
    row := hr
    rv := fun hb => (hm gc hb).elim H.rv (fun h => by have := H.gct.2; omega) }
end
end Go.Proofs.YtmbjpjpdcmjjgaaGreatDoor
namespace Go.Proofs.YtmbjpjpdcmjjgaaGreatDoor
open Go.ChangeShapes Go.WideShapes Go.ChangeAt Go.RowKit Go.Joins Go.Xt
/-! A configuration opened. -/
section
variable {H : Type} {enc : TypeId × Value → H} {w : World} {base : Nat} {spare : Nat → Bool} {held : Bool}
theorem cInt : Tryz.prog.cellsOf 3 = 1 := by kernel_rfl
theorem cU8 : Tryz.prog.cellsOf 5 = 1 := by kernel_rfl
theorem cU64 : Tryz.prog.cellsOf 32 = 1 := by kernel_rfl
theorem cSl : Tryz.prog.cellsOf 22 = 1 := by kernel_rfl
theorem cDom : Tryz.prog.cellsOf 24 = 3 := by kernel_rfl
theorem cArr : Tryz.prog.cellsOf 25 = 6 := by kernel_rfl
theorem cConf : Tryz.prog.cellsOf 27 = 16 := by kernel_rfl
theorem int_of {k : IntKind} {t : TypeId} {fuel : Nat} {v : Value} {x : Option (DataW H × List MemPlace)} (ht : Tryz.prog.underlying t = some (.int k)) (h : DataW.trod enc Tryz.prog w base spare held fuel t [v] = x) (hx : x.isSome = true) : ∃ n, v = .int k n ∧ (Lit.int k n).wf = true := by
  obtain ⟨y, hy⟩ := Option.isSome_iff_exists.1 hx
  rw [hy] at h
  obtain ⟨n, e, _, hw⟩ := DataW.trod_int ht h
  simp at e
  exact ⟨n, e, hw⟩
theorem some_of {α : Type} {xs : List α} {n i : Nat} (h : xs.length = n) (hi : i < n) : (xs[i]?).isSome = true := by
  rw [List.getElem?_eq_getElem (by omega)]; rfl
set_option maxRecDepth 100000 in
theorem open_conf {v : Value} {d : DataW H} {p : List MemPlace} {r : Reach} {b0 : Nat} (hv : Value.okWide Tryz.prog w r b0 27 v) (h : DataW.Trod enc Tryz.prog w base (fun _ => true) held 27 v d p) :
    ∃ (c : Cf) (cuts : List Nat), v = confV c ∧ c.cn = cuts.length ∧ Rd w 1 c.cA cuts.length (nums cuts) ∧ (0 ≤ c.eng ∧ c.eng < 256) ∧ c.cc ≤ maxLen ∧ c.cn ≤ c.cc := by
  obtain ⟨cs, rfl, _⟩ := okWide_struct Tryz.underlying27 hv
  obtain ⟨fuel, hf⟩ := h
  have hf : DataW.trod enc Tryz.prog w base (fun _ => true) held fuel 27 cs.toList = some (d, p) := by simpa [Value.cells] using hf
  obtain ⟨xs, m, -, -, hl, hxl, hfi⟩ := DataW.trod_struct Tryz.underlying27 hf
  rw [cConf] at hl
  obtain ⟨v0, v1, v2, v3, v4, v5, v6, v7, v8, v9, v10, v11, v12, v13, v14, v15, hL⟩ : ∃ v0 v1 v2 v3 v4 v5 v6 v7 v8 v9 v10 v11 v12 v13 v14 v15, cs.toList = [v0, v1, v2, v3, v4, v5, v6, v7, v8, v9, v10, v11, v12, v13, v14, v15] := by
    match cs.toList, hl with
    | [v0, v1, v2, v3, v4, v5, v6, v7, v8, v9, v10, v11, v12, v13, v14, v15], _ => exact ⟨v0, v1, v2, v3, v4, v5, v6, v7, v8, v9, v10, v11, v12, v13, v14, v15, rfl⟩
  have hcs : cs = #[v0, v1, v2, v3, v4, v5, v6, v7, v8, v9, v10, v11, v12, v13, v14, v15] := by cases cs; simp at hL; rw [hL]
  have hxl : xs.length = 9 := hxl
  have g0 : DataW.trod enc Tryz.prog w base (fun _ => true) held m 3 ((cs.toList.drop 0).take (Tryz.prog.cellsOf 3)) = xs[0]? := hfi 0 _ rfl
  have g1 : DataW.trod enc Tryz.prog w base (fun _ => true) held m 3 ((cs.toList.drop 1).take (Tryz.prog.cellsOf 3)) = xs[1]? := hfi 1 _ rfl
  have g2 : DataW.trod enc Tryz.prog w base (fun _ => true) held m 5 ((cs.toList.drop 2).take (Tryz.prog.cellsOf 5)) = xs[2]? := hfi 2 _ rfl
  have g3 : DataW.trod enc Tryz.prog w base (fun _ => true) held m 3 ((cs.toList.drop 3).take (Tryz.prog.cellsOf 3)) = xs[3]? := hfi 3 _ rfl
  have g4 : DataW.trod enc Tryz.prog w base (fun _ => true) held m 24 ((cs.toList.drop 4).take (Tryz.prog.cellsOf 24)) = xs[4]? := hfi 4 _ rfl
  have g5 : DataW.trod enc Tryz.prog w base (fun _ => true) held m 25 ((cs.toList.drop 7).take (Tryz.prog.cellsOf 25)) = xs[5]? := hfi 5 _ rfl
  have g6 : DataW.trod enc Tryz.prog w base (fun _ => true) held m 3 ((cs.toList.drop 13).take (Tryz.prog.cellsOf 3)) = xs[6]? := hfi 6 _ rfl
  have g7 : DataW.trod enc Tryz.prog w base (fun _ => true) held m 3 ((cs.toList.drop 14).take (Tryz.prog.cellsOf 3)) = xs[7]? := hfi 7 _ rfl
  have g8 : DataW.trod enc Tryz.prog w base (fun _ => true) held m 3 ((cs.toList.drop 15).take (Tryz.prog.cellsOf 3)) = xs[8]? := hfi 8 _ rfl
  simp only [hL, cInt, cU8, cDom, cArr, List.drop_zero, List.drop_succ_cons, List.take_succ_cons, List.take_zero] at g0 g1 g2 g3 g4 g5 g6 g7 g8
  obtain ⟨thr, rfl, -⟩ := int_of Tryz.underlying3 g0 (some_of hxl (by decide))
  obtain ⟨sl, rfl, -⟩ := int_of Tryz.underlying3 g1 (some_of hxl (by decide))
  obtain ⟨eng, rfl, weng⟩ := int_of Tryz.underlying5 g2 (some_of hxl (by decide))
  obtain ⟨bk, rfl, -⟩ := int_of Tryz.underlying3 g3 (some_of hxl (by decide))
  obtain ⟨lk, rfl, -⟩ := int_of Tryz.underlying3 g6 (some_of hxl (by decide))
  obtain ⟨tr, rfl, -⟩ := int_of Tryz.underlying3 g7 (some_of hxl (by decide))
  obtain ⟨ba, rfl, -⟩ := int_of Tryz.underlying3 g8 (some_of hxl (by decide))
  -- the towers
  obtain ⟨x5, hx5⟩ := Option.isSome_iff_exists.1 (some_of (i := 5) hxl (by decide))
  rw [hx5] at g5
  obtain ⟨L5, hL5⟩ : ∃ L5, L5 = [v7, v8, v9, v10, v11, v12] := ⟨_, rfl⟩
  rw [← hL5] at g5
  obtain ⟨ys, m5, -, -, -, hyl, hyi⟩ := DataW.trod_array Tryz.underlying25 g5
  have a0 : DataW.trod enc Tryz.prog w base (fun _ => true) held m5 3 ((L5.drop (0 * Tryz.prog.cellsOf 3)).take (Tryz.prog.cellsOf 3)) = ys[0]? := hyi 0 (by decide)
  have a1 : DataW.trod enc Tryz.prog w base (fun _ => true) held m5 3 ((L5.drop (1 * Tryz.prog.cellsOf 3)).take (Tryz.prog.cellsOf 3)) = ys[1]? := hyi 1 (by decide)
  have a2 : DataW.trod enc Tryz.prog w base (fun _ => true) held m5 3 ((L5.drop (2 * Tryz.prog.cellsOf 3)).take (Tryz.prog.cellsOf 3)) = ys[2]? := hyi 2 (by decide)
  have a3 : DataW.trod enc Tryz.prog w base (fun _ => true) held m5 3 ((L5.drop (3 * Tryz.prog.cellsOf 3)).take (Tryz.prog.cellsOf 3)) = ys[3]? := hyi 3 (by decide)
  have a4 : DataW.trod enc Tryz.prog w base (fun _ => true) held m5 3 ((L5.drop (4 * Tryz.prog.cellsOf 3)).take (Tryz.prog.cellsOf 3)) = ys[4]? := hyi 4 (by decide)
  have a5 : DataW.trod enc Tryz.prog w base (fun _ => true) held m5 3 ((L5.drop (5 * Tryz.prog.cellsOf 3)).take (Tryz.prog.cellsOf 3)) = ys[5]? := hyi 5 (by decide)
  simp only [hL5, cInt, Nat.zero_mul, Nat.one_mul, Nat.mul_one, List.drop_zero, List.drop_succ_cons, List.take_succ_cons, List.take_zero] at a0 a1 a2 a3 a4 a5
  obtain ⟨t1, rfl, -⟩ := int_of Tryz.underlying3 a0 (some_of hyl (by decide))
  obtain ⟨t2, rfl, -⟩ := int_of Tryz.underlying3 a1 (some_of hyl (by decide))
  obtain ⟨t3, rfl, -⟩ := int_of Tryz.underlying3 a2 (some_of hyl (by decide))
  obtain ⟨t4, rfl, -⟩ := int_of Tryz.underlying3 a3 (some_of hyl (by decide))
  obtain ⟨t5, rfl, -⟩ := int_of Tryz.underlying3 a4 (some_of hyl (by decide))
  obtain ⟨t6, rfl, -⟩ := int_of Tryz.underlying3 a5 (some_of hyl (by decide))
  -- the domain
  obtain ⟨x4, hx4⟩ := Option.isSome_iff_exists.1 (some_of (i := 4) hxl (by decide))
  rw [hx4] at g4
  obtain ⟨L4, hL4⟩ : ∃ L4, L4 = [v4, v5, v6] := ⟨_, rfl⟩
  rw [← hL4] at g4
  obtain ⟨zs, m4, -, -, -, hzl, hzi⟩ := DataW.trod_struct Tryz.underlying24 g4
  have hzl : zs.length = 3 := hzl
  have e0 : DataW.trod enc Tryz.prog w base (fun _ => true) held m4 5 ((L4.drop 0).take (Tryz.prog.cellsOf 5)) = zs[0]? := hzi 0 _ rfl
  have e1 : DataW.trod enc Tryz.prog w base (fun _ => true) held m4 3 ((L4.drop 1).take (Tryz.prog.cellsOf 3)) = zs[1]? := hzi 1 _ rfl
  have e2 : DataW.trod enc Tryz.prog w base (fun _ => true) held m4 22 ((L4.drop 2).take (Tryz.prog.cellsOf 22)) = zs[2]? := hzi 2 _ rfl
  simp only [hL4, cInt, cU8, cSl, List.drop_zero, List.drop_succ_cons, List.take_succ_cons, List.take_zero] at e0 e1 e2
  obtain ⟨dk, rfl, -⟩ := int_of Tryz.underlying5 e0 (some_of hzl (by decide))
  obtain ⟨dn, rfl, -⟩ := int_of Tryz.underlying3 e1 (some_of hzl (by decide))
  obtain ⟨z2, hz2⟩ := Option.isSome_iff_exists.1 (some_of (i := 2) hzl (by decide))
  rw [hz2] at e2
  have he : 0 ≤ eng ∧ eng < 256 := WfU8 weng
  rcases Deep.open_slice1 Tryz.underlying22 cU64 e2 with ⟨hcs6, _⟩ | ⟨a, len, cap, mm, k, V, D, Pl, hcs6, _, hlc, hcm, hmm, _, hi⟩
  · simp only [List.cons.injEq, and_true] at hcs6
    subst hcs6
    exact ⟨⟨thr, sl, eng, bk, dk, dn, none, 0, 0, t1, t2, t3, t4, t5, t6, lk, tr, ba⟩, [], by rw [hcs]; rfl, rfl, ⟨rfl, fun h => absurd h (by simp)⟩, he, Nat.zero_le _, Nat.zero_le _⟩
  · simp only [List.cons.injEq, and_true] at hcs6
    subst hcs6
    simp only [if_true] at hmm
    have get : ∀ i, i < len → ∃ n : Nat, w.cell? (a.add i) = some (.int .u64 (n : Int)) := fun i hil => by
      obtain ⟨h1, h2⟩ := hi i (by omega)
      obtain ⟨n, h3, hw⟩ := int_of Tryz.underlying32 h2 rfl
      have := WfU64 hw
      exact ⟨n.toNat, by rw [h1, h3]; congr 2; omega⟩
    let cuts := (List.range len).map fun i => if h : i < len then Classical.choose (get i h) else 0
    have hcut : ∀ i (hil : i < len), cuts[i]? = some (Classical.choose (get i hil)) := by
      intro i hil
      simp only [cuts, List.getElem?_map, List.getElem?_range hil, Option.map_some, dif_pos hil]
    have hcl : cuts.length = len := by simp [cuts]
    refine ⟨⟨thr, sl, eng, bk, dk, dn, some a, len, cap, t1, t2, t3, t4, t5, t6, lk, tr, ba⟩, cuts, by rw [hcs]; rfl, hcl.symm, ⟨by simp [nums], fun h0 => ?_⟩, he, hcm, hlc⟩
    have h00 := Classical.choose_spec (get 0 (by omega))
    have hsp : a.spot = none := by
      have := spot_of_cell h00
      rwa [add_zero] at this
    have hb := World.block_lt_of_cell? w _ h00
    rw [add_block] at hb
    refine ⟨a.block, a.off, by cases a; simp at hsp; subst hsp; rfl, hb, fun j u hu => ?_⟩
    have hj : j < len := by have := (List.getElem?_eq_some_iff.1 hu).1; simp [nums] at this; omega
    have h1 := (congrArg w.cell? (add_spot hsp)).symm.trans (Classical.choose_spec (get j hj))
    have h2 := nums_at (hcut j hj)
    rw [hu] at h2
    injection h2 with h2
    rw [h2]
    exact h1
end
end Go.Proofs.YtmbjpjpdcmjjgaaGreatDoor
