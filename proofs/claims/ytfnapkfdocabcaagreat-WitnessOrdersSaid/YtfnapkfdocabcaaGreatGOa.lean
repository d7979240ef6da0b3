import Derived.Test.YtfnapkfdocabcaaGreatGKe
import Derived.Test.YtfnapkfdocabcaaGreatGY
import Derived.Shelf.SlSortCmp.Insertion1
import Derived.Shelf.SlSortCmp.QuietGrown
import Derived.Test.YtfnapkfdocabcaaGreatGKa
set_option linter.unusedVariables false
set_option linter.unusedSimpArgs false
set_option linter.unnecessarySimpa false
namespace Go.Proofs.YtfnapkfdocabcaaGreat
open Go.RowKit Go.Xt Go.Shelf Go.Sort
/-! The order's comparison; a stable sort of at most twenty. -/
def nbW (b : Bool) : Int := if b = true then 1 else 0
def cfW (p q : Int) (x y : Bool) : Int := if p - q = 0 then nbW x - nbW y else p - q
theorem grow_alloc (w : World) (o : Obj) (q : Nat) : (w.alloc o).drewN q = grow (w.drewN q) #[o] := by
  rw [alloc_eq_grow]; rfl
set_option maxHeartbeats 1000000 in
theorem read_ex (c : Cl) (w : World) :
    Calls Tryz.prog 33 #[cv c] w fun e w' => e = .returned (.bool (readB c)) ∧ ∃ q os', w' = grow (w.drewN q) os' := by
  go_enter Tryz.func33, Tryz.ntmps33
  go_wp2
  all_goals (go_ret; refine ⟨ret_bool ?_, 0, _, alloc_eq_grow _ _⟩)
  all_goals (simp_all [readB])
  all_goals first | rfl | (intro h; omega) | omega
theorem number_ex (b : Bool) (w : World) :
    Calls Tryz.prog 48 #[.bool b] w fun e w' => e = .returned (.int .i64 (nbW b)) ∧ ∃ q os', w' = grow (w.drewN q) os' := by
  cases b <;>
  · go_enter Tryz.func48, Tryz.ntmps48
    go_wp2
    go_ret
    exact ⟨rfl, 0, #[], (grow_empty _).symm⟩
instance {w : World} {b o n : Nat} {os : Array Obj} {c : Cl} [h : CallAt w b o c] : CallAt (grow (w.drewN n) os) b o c := by
  obtain ⟨k, rfl⟩ : ∃ k, k = (n : Nat) := ⟨_, rfl⟩
  have hs : w.heap.size ≤ (grow (w.drewN k) os).heap.size := by rw [size_grow]; exact Nat.le_add_right _ _
  refine ⟨?_, Nat.lt_of_lt_of_le h.lt hs⟩
  have hc : ∀ t, (grow (w.drewN k) os).cell? ⟨b, t, none⟩ = w.cell? ⟨b, t, none⟩ := fun t => cell?_grow _ _ _ h.lt
  have ha := h.at_
  unfold AtC at ha ⊢
  simp only [hc]
  exact ha
set_option maxHeartbeats 4000000 in
/-- The comparison of Order. -/
theorem ordcl_any (W : World) (B6 B3 bs os cs b o n c i j : Nat) (p q : Int) (x y : Cl)
    (h6 : W.cell? ⟨B6, 0, none⟩ = some (.slice (some ⟨bs, os, none⟩) n cs)) (h3 : W.cell? ⟨B3, 0, none⟩ = some (.slice (some ⟨b, o, none⟩) n c))
    (hi : i < n) (hj : j < n) (hn : n ≤ 1000000) (ci : W.cell? ⟨bs, os + i, none⟩ = some (.int .i64 p)) (cj : W.cell? ⟨bs, os + j, none⟩ = some (.int .i64 q))
    (hx : CallAt W b (o + i * 18) x) (hy : CallAt W b (o + j * 18) y) (p0 : 0 ≤ p) (p1 : p ≤ 9223372036854775807) (q0 : 0 ≤ q) (q1 : q ≤ 9223372036854775807) :
    Calls Tryz.prog 47 #[.int .i64 (i : Int), .int .i64 (j : Int), .pointer (some ⟨B6, 0, none⟩), .pointer (some ⟨B3, 0, none⟩)] W fun e w' => e = .returned (.int .i64 (cfW p q (readB x) (readB y))) ∧ ∃ k os', w' = grow (W.drewN k) os' := by
  go_enter Tryz.func47, Tryz.ntmps47
  go_wp2
  go_quiet (fail)
  obtain ⟨k0, hk0⟩ : ∃ k0, k0 = nq := ⟨_, rfl⟩
  rw [← hk0]
  clear hk0
  by_cases hd : p - q = 0
  · obtain rfl : p = q := by omega
    have hB3 := World.block_lt_of_cell? W _ h3
    haveI := hx
    haveI := hy
    generalize hW : W.drewN k0 = W1
    have h3' : ∀ n' os', (grow (W1.drewN n') os').cell? ⟨B3, 0, none⟩ = some (.slice (some ⟨b, o, none⟩) n c) := fun n' os' => by
      rw [← hW]; exact cell_grown hB3 h3 n' os'
    haveI : CallAt W1 b (o + i * 18) x := hW ▸ inferInstance
    haveI : CallAt W1 b (o + j * 18) y := hW ▸ inferInstance
    have mixed : Tryz.prog.follows .mixedOrders = true := sortL.mixed
    go_wp2_with fail
    go_quiet_grown (first | exact Calls.grown_of (read_ex _ _) | exact Calls.grown_of (number_ex _ _))
    go_wp2
    go_ret
    refine ⟨congrArg (fun z => Ending.returned (.int .i64 z)) ?_, k0 + nq, osq, by rw [← hW, World.drewN_drewN]⟩
    unfold cfW
    rw [if_pos (by omega)]
    cases readB x <;> cases readB y <;> rfl
  · have hw : IntKind.i64.wrap (p - q) = p - q := by rw [IntKind.wrap_i64]; omega
    go_wp2_with fail
    go_ret
    refine ⟨congrArg (fun z => Ending.returned (.int .i64 z)) ?_, k0, #[], (grow_empty _).symm⟩
    unfold cfW
    rw [if_neg hd]
end Go.Proofs.YtfnapkfdocabcaaGreat
namespace Go.Proofs.YtfnapkfdocabcaaGreat
open Go.RowKit Go.Xt Go.Shelf Go.Sort
/-- What a sort leaves. -/
def SoL {α : Type} [Inhabited α] (enc : α → Value) (cf : α → α → Int) (blk off : Nat) (d : Array α) (w w' : World) : Prop :=
  ∃ d' : Array α, d'.size = d.size ∧ PermIn 0 d.size d d' ∧ SortedIn (ltOf cf) 0 d.size d' ∧ SW enc w blk off d' w'
set_option maxRecDepth 20000 in
set_option maxHeartbeats 4000000 in
/-- The library's stable sort, of at most twenty. -/
theorem stable_any {α : Type} [Inhabited α] (enc : α → Value) (cf : α → α → Int) (hS : SWO (ltOf cf)) (g : Nat) (cb : Array Value) (blk off cap n : Nat) (d : Array α) (w : World)
    (eg : ∀ args w, (callFunc g args).run Tryz.prog w = .ok (.enter g args) w) (hcmp : CmpLays1 Tryz.prog g cb enc cf blk off d.size w) (R : Row1 enc w blk off d) (hd : d.size = n) (hn : n ≤ 20) :
    Calls Tryz.prog 87 #[.slice (some ⟨blk, off, none⟩) n cap, .int .i64 (n : Int), .func (.func g) #[] cb] w fun e w' => e = .returned (.tuple #[]) ∧ SoL enc cf blk off d w w' := by
  have hins : insertionSort_stmt (ltOf cf) := insertionSort_holds
  have HI := Lib.hid (fun (a b : Nat) (dk : Array α) (W : World) (hk : dk.size = n) (S : SW enc w blk off dk W) (hab : a ≤ b) (hb : b ≤ n) =>
    show Calls Tryz.prog 109 #[.slice (some ⟨blk, off, none⟩) n cap, .int .i64 a, .int .i64 b, .func (.func g) #[] cb] W fun e w' => e = .returned (.tuple #[]) ∧ SW enc w blk off (Sort.insertionSort (ltOf cf) dk a b) w' from
      hk ▸ Any.insertionSortCmpFunc_s (L := { sortL with }) enc cf g cb blk off cap a b d dk w W eg hcmp R (by omega) S hab (by omega) (by omega))
  have H1 := Lib.hid (hins hS d 0 n (Nat.zero_le _) (by omega))
  have H0 := Lib.hid (SW.start R.hH)
  have HD := Lib.hid hd
  have HF := Lib.hid (show SW enc w blk off (Sort.insertionSort (ltOf cf) d 0 n) = SW enc w blk off (Sort.insertionSort (ltOf cf) (Sort.insertionSort (ltOf cf) d 0 n) n n) from
    congrArg (SW enc w blk off) (insOuter_stop (lt := ltOf cf) n n (n + 1) _ (by omega)).symm)
  have hres : ∀ W, SW enc w blk off (Sort.insertionSort (ltOf cf) d 0 n) W → SoL enc cf blk off d w W := fun W h => ⟨_, H1.out.1.1, HD.out ▸ H1.out.1, HD.out ▸ H1.out.2, h⟩
  have HRES := Lib.hid hres
  clear hres R hcmp hd eg hins
  go_enter Tryz.func87, Tryz.ntmps87
  go_wp2_with fail
  go_loopw [7, 8] (fun a b wr => ∃ k : Bool, a = .int .i64 (cond k 20 0) ∧ b = .int .i64 (cond k 40 20) ∧ Hid (cond k (n = 20 ∧ SW enc w blk off (Sort.insertionSort (ltOf cf) d 0 n) wr) (wr = w))) (fun a _ _ => 20 - (intOf a).toNat)
  case atStart => exact ⟨false, rfl, rfl, Lib.hid rfl⟩
  case round =>
    obtain ⟨k, rfl, rfl, hk⟩ := hrel
    cases k with
    | false =>
      obtain rfl := hk.out
      clear hk
      dsimp only [cond]
      by_cases h20 : n = 20
      · have hle : (20 : Int) ≤ (n : Int) := by omega
        have H20 := Lib.hid h20
        clear h20
        go_wp2_with fail
        refine (HI.out 0 20 d _ HD.out H0.out (by omega) (by have := H20.out; omega)).mono ?_
        rintro e W1 ⟨rfl, hs⟩
        have HS := Lib.hid hs
        clear hs
        go_wp2_with fail
        exact ⟨⟨true, rfl, rfl, Lib.hid ⟨H20.out, by have h := HS.out; rwa [show (20 : Nat) = n from H20.out.symm] at h⟩⟩, by simp [intOf]⟩
      · have hlt : (n : Int) < 20 := by omega
        go_wp2_with fail
        refine (HI.out 0 n d _ HD.out H0.out (by omega) (by omega)).mono ?_
        rintro e W1 ⟨rfl, hs⟩
        have HS := Lib.hid (HRES.out _ hs)
        clear hs
        go_wp2_with fail
        go_loopw [6, 7, 8, 9] (fun bs _ _ _ wr => bs = .int .i64 20 ∧ wr = W1) (fun _ _ _ _ _ => 0)
        case atStart => exact ⟨rfl, rfl⟩
        case round =>
          obtain ⟨rfl, rfl⟩ := hrel
          go_wp2
          go_end0
          exact ⟨rfl, HS.out⟩
    | true =>
      obtain ⟨h20, hs⟩ := hk.out
      have hlt : ¬ (40 : Int) ≤ (n : Int) := by omega
      have h20z : (n : Int) = 20 := by omega
      have HS0 := Lib.hid hs
      clear hk hs
      dsimp only [cond]
      have H20 := Lib.hid h20
      clear h20z h20
      go_wp2_with fail
      have hc := HI.out 20 n (Sort.insertionSort (ltOf cf) d 0 n) wr (H1.out.1.1.trans HD.out) HS0.out (by have := H20.out; omega) (Nat.le_refl _)
      refine hc.mono ?_
      rintro e W1 ⟨rfl, hs1⟩
      have HS := Lib.hid (HRES.out _ (by have h := hs1; rw [show (20 : Nat) = n from H20.out.symm] at h; rw [HF.out]; exact h))
      clear hs1
      go_wp2_with fail
      go_loopw [6, 7, 8, 9] (fun bs _ _ _ wr => bs = .int .i64 20 ∧ wr = W1) (fun _ _ _ _ _ => 0)
      case atStart => exact ⟨rfl, rfl⟩
      case round =>
        obtain ⟨rfl, rfl⟩ := hrel
        go_wp2
        go_end0
        exact ⟨rfl, HS.out⟩
end Go.Proofs.YtfnapkfdocabcaaGreat
namespace Go.Proofs.YtfnapkfdocabcaaGreat
open Go.RowKit Go.Xt
/-! Witness, plain: the map after a step; the least step that explains a read. -/
/-- The pairs after a step, out of the maps (as At looks them up). -/
def atF (cur : List (Int × Int)) (maps : List Sta) (st : Int) : List (Int × Int) := maps.foldl (fun c s => if s.1 ≤ st then s.2 else c) cur
theorem atF_app (cur : List (Int × Int)) (a b : List Sta) (st : Int) : atF cur (a ++ b) st = atF (atF cur a st) b st := by unfold atF; rw [List.foldl_append]
theorem atF_cons (cur : List (Int × Int)) (s : Sta) (r : List Sta) (st : Int) : atF cur (s :: r) st = atF (if s.1 ≤ st then s.2 else cur) r st := rfl
theorem atF_late (cur : List (Int × Int)) : ∀ (maps : List Sta) (st : Int), (∀ s ∈ maps, st < s.1) → atF cur maps st = cur
  | [], _, _ => rfl
  | s :: r, st, h => by
    rw [atF_cons, if_neg (by have := h s (by simp); omega)]
    exact atF_late cur r st (fun t ht => h t (by simp [ht]))
/-- Steps strictly ascend. -/
def ascS (maps : List Sta) : Prop := maps.Pairwise fun a b => a.1 < b.1
/-- The search for the least step, along the maps. -/
theorem durL_find (c : Cl) (fr hi : Int) (hfh : fr ≤ hi) : ∀ (s : Sta) (r : List Sta) (cur : List (Int × Int)), ascS (s :: r) →
    match (durL fr hi (s :: r)).find? fun z => agrB1 c z.2 with
    | some z => max s.1 fr ≤ z.1 ∧ z.1 ≤ hi ∧ agrB1 c (atF cur (s :: r) z.1) = true ∧ ∀ st, max s.1 fr ≤ st → st < z.1 → agrB1 c (atF cur (s :: r) st) = false
    | none => ∀ st, max s.1 fr ≤ st → st ≤ hi → agrB1 c (atF cur (s :: r) st) = false
  | s, [], cur, _ => by
    by_cases h : hi < s.1
    · rw [durL_stop h]
      intro st h1 h2; omega
    · rw [durL_last h]
      have e : ∀ st, max s.1 fr ≤ st → atF cur [s] st = s.2 := fun st h1 => by rw [atF_cons, if_pos (by omega)]; rfl
      simp only [List.find?_cons, List.find?_nil]
      cases ha : agrB1 c s.2 with
      | true =>
        simp only
        exact ⟨Int.le_refl _, by omega, by rw [e _ (Int.le_refl _)]; exact ha, fun st h1 h2 => by omega⟩
      | false =>
        simp only
        exact fun st h1 _ => by rw [e st h1]; exact ha
  | s, z :: r, cur, hs => by
    have h0 : s.1 < z.1 := (List.pairwise_cons.1 hs).1 z (by simp)
    have hs2 : ascS (z :: r) := (List.pairwise_cons.1 hs).2
    have ih := durL_find c fr hi hfh z r s.2 hs2
    by_cases h : hi < s.1
    · rw [durL_stop h]
      intro st h1 h2; omega
    · have e1 : ∀ st, s.1 ≤ st → atF cur (s :: z :: r) st = atF s.2 (z :: r) st := fun st h1 => by rw [atF_cons, if_pos h1]
      have e2 : ∀ st, st < z.1 → atF s.2 (z :: r) st = s.2 := fun st h1 => atF_late _ _ _ (fun t ht => by
        rcases List.mem_cons.1 ht with rfl | ht
        · exact h1
        · have := (List.pairwise_cons.1 hs2).1 t ht; omega)
      by_cases h2 : z.1 ≤ fr
      · rw [durL_skip h h2]
        have m : max s.1 fr = max z.1 fr := by omega
        rw [m]
        cases hf : (durL fr hi (z :: r)).find? fun z => agrB1 c z.2 with
        | some y =>
          rw [hf] at ih
          simp only at ih ⊢
          exact ⟨ih.1, ih.2.1, by rw [e1 _ (by omega)]; exact ih.2.2.1, fun st h1 h3 => by rw [e1 _ (by omega)]; exact ih.2.2.2 st h1 h3⟩
        | none =>
          rw [hf] at ih
          simp only at ih ⊢
          exact fun st h1 h3 => by rw [e1 _ (by omega)]; exact ih st h1 h3
      · rw [durL_go h h2]
        simp only [List.find?_cons]
        cases ha : agrB1 c s.2 with
        | true =>
          simp only
          exact ⟨Int.le_refl _, by omega, by rw [e1 _ (by omega), e2 _ (by omega)]; exact ha, fun st h1 h3 => by omega⟩
        | false =>
          simp only
          have m : max z.1 fr = z.1 := by omega
          rw [m] at ih
          cases hf : (durL fr hi (z :: r)).find? fun z => agrB1 c z.2 with
          | some y =>
            rw [hf] at ih
            simp only at ih ⊢
            refine ⟨by omega, ih.2.1, by rw [e1 _ (by omega)]; exact ih.2.2.1, fun st h1 h3 => ?_⟩
            rw [e1 _ (by omega)]
            by_cases h4 : z.1 ≤ st
            · exact ih.2.2.2 st h4 h3
            · rw [e2 _ (by omega)]; exact ha
          | none =>
            rw [hf] at ih
            simp only at ih ⊢
            intro st h1 h3
            rw [e1 _ (by omega)]
            by_cases h4 : z.1 ≤ st
            · exact ih st h4 h3
            · rw [e2 _ (by omega)]; exact ha
/-- Maps that begin ahead of all steps. -/
structure Maps (maps : List Sta) : Prop where
  asc_ : ascS maps
  head : ∃ p r, maps = (-1, p) :: r
/-- The least step that explains a read. -/
theorem explM_spec {maps : List Sta} (h : Maps maps) {c : Cl} (h0 : 0 ≤ c.inv) (h1 : c.inv ≤ c.ans) :
    (0 ≤ explM maps c ∧ c.rk = 0 ∧ c.rc = 0 ∧ c.inv ≤ explM maps c ∧ explM maps c ≤ c.ans ∧ agrB1 c (atF [] maps (explM maps c)) = true ∧ ∀ st, c.inv ≤ st → st < explM maps c → agrB1 c (atF [] maps st) = false) ∨
    (explM maps c = -1 ∧ (c.rk = 0 → c.rc = 0 → ∀ st, c.inv ≤ st → st ≤ c.ans → agrB1 c (atF [] maps st) = false)) := by
  obtain ⟨p, r, rfl⟩ := h.head
  have hd := durL_find c c.inv c.ans h1 (-1, p) r [] h.asc_
  have m : max (-1) c.inv = c.inv := by omega
  simp only [m] at hd
  unfold explM
  by_cases hk : c.rk ≠ 0 ∨ c.rc ≠ 0
  · rw [if_pos hk]
    exact .inr ⟨rfl, fun a b => by rcases hk with hk | hk <;> contradiction⟩
  · rw [if_neg hk]
    cases hf : (durL c.inv c.ans ((-1, p) :: r)).find? fun z => agrB1 c z.2 with
    | some z =>
      rw [hf] at hd
      simp only at hd ⊢
      exact .inl ⟨by omega, by omega, by omega, hd.1, hd.2.1, hd.2.2.1, hd.2.2.2⟩
    | none =>
      rw [hf] at hd
      simp only at hd ⊢
      exact .inr ⟨trivial, fun _ _ => hd⟩
/-- The state after a step. -/
def stAt (l : List Cl) : List Nat → Md → Int → Md
  | [], s, _ => s
  | i :: t, s, st => match l[i]? with
    | none => s
    | some c => if c.took ≤ st then match fitsM s c with
      | some s' => stAt l t s' st
      | none => s
      else s
/-- The maps so far, and the state behind them. -/
structure InvS (out : List Sta) (s : Md) (T : Int) : Prop where
  asc_ : ascS out
  head : ∃ p r, out = (-1, p) :: r
  le : ∀ z ∈ out, z.1 ≤ T
  last : ∃ z, out.getLast? = some z ∧ z.2 = s.l
theorem InvS.at {out : List Sta} {s : Md} {T : Int} (h : InvS out s T) (cur : List (Int × Int)) {st : Int} (hst : T ≤ st) : atF cur out st = s.l := by
  obtain ⟨z, hz, hzs⟩ := h.last
  obtain ⟨o, rfl⟩ : ∃ o, out = o ++ [z] := by
    rw [List.getLast?_eq_some_iff] at hz; exact hz
  rw [atF_app, atF_cons, if_pos (by have := h.le z (by simp); omega), ← hzs]; rfl
theorem InvS.put {out : List Sta} {s s' : Md} {T f : Int} (h : InvS out s T) (hf : T < f) : InvS (putS out f s'.l) s' f ∧ ∀ cur st, st < f → atF cur (putS out f s'.l) st = atF cur out st := by
  obtain ⟨z, hz, hzs⟩ := h.last
  by_cases he : z.2 = s'.l
  · have e : putS out f s'.l = out := by unfold putS; rw [hz]; simp [he]
    rw [e]
    exact ⟨⟨h.asc_, h.head, fun y hy => by have := h.le y hy; omega, z, hz, he⟩, fun _ _ _ => rfl⟩
  · have e : putS out f s'.l = out ++ [(f, s'.l)] := by unfold putS; rw [hz]; simp [he]
    rw [e]
    refine ⟨⟨?_, ?_, fun y hy => ?_, (f, s'.l), by simp, rfl⟩, fun cur st hst => ?_⟩
    · unfold ascS
      rw [List.pairwise_append]
      exact ⟨h.asc_, by simp, fun a ha b hb => by simp at hb; subst hb; have := h.le a ha; show a.1 < f; omega⟩
    · obtain ⟨p, r, e⟩ := h.head
      exact ⟨p, r ++ [(f, s'.l)], by rw [e]; rfl⟩
    · rcases List.mem_append.1 hy with hy | hy
      · have := h.le y hy; omega
      · simp at hy; subst hy; exact Int.le_refl _
    · rw [atF_app, atF_cons, if_neg (by show ¬ f ≤ st; omega)]; rfl
/-- All calls of an order fit, one after the other. -/
def runF (l : List Cl) : List Nat → Md → Option Md
  | [], s => some s
  | i :: t, s => match l[i]? with
    | none => none
    | some c => match fitsM s c with
      | none => none
      | some s' => runF l t s'
/-- What performing a history gives. -/
theorem statesM_spec (l : List Cl) : ∀ (ord : List Nat) (s : Md) (out : List Sta) (T : Int), InvS out s T → (ord.Pairwise fun i j => tk l i < tk l j) → (∀ i ∈ ord, T < tk l i) →
    match statesM l ord s out with
    | .ok o2 => (∃ s2, runF l ord s = some s2 ∧ ∃ T2, InvS o2 s2 T2) ∧ ∀ st, atF [] o2 st = if T ≤ st then (stAt l ord s st).l else atF [] out st
    | .error _ => runF l ord s = none
  | [], s, out, T, h, _, _ => by
    simp only [statesM]
    refine ⟨⟨s, rfl, T, h⟩, fun st => ?_⟩
    split
    · rename_i hT; rw [h.at [] hT]; rfl
    · rfl
  | i :: t, s, out, T, h, hp, hT => by
    rw [List.pairwise_cons] at hp
    rw [statesM, runF]
    cases hx : l[i]? with
    | none => simp only
    | some c =>
      have htk : tk l i = c.took := tk_of hx
      simp only
      cases hf : fitsM s c with
      | none => simp only
      | some s' =>
        simp only
        have hTi := hT i (by simp)
        rw [htk] at hTi
        obtain ⟨h1, h2⟩ := h.put (s' := s') hTi
        have ih := statesM_spec l t s' _ c.took h1 hp.2 (fun j hj => by rw [← htk]; exact hp.1 j hj)
        cases hs : statesM l t s' (putS out c.took s'.l) with
        | error k => rw [hs] at ih; exact ih
        | ok o2 =>
          rw [hs] at ih
          simp only at ih ⊢
          refine ⟨ih.1, fun st => ?_⟩
          rw [ih.2 st]
          by_cases h3 : c.took ≤ st
          · rw [if_pos h3, if_pos (by omega), stAt, hx]
            simp only
            rw [if_pos h3, hf]
          · rw [if_neg h3, h2 _ _ (by omega)]
            by_cases h4 : T ≤ st
            · rw [if_pos h4, h.at [] h4, stAt, hx]
              simp only
              rw [if_neg h3]
            · rw [if_neg h4]
theorem inv_out0 {s : Md} (h : s.l = []) : InvS out0 s (-1) := ⟨by unfold ascS out0; simp, ⟨[], [], rfl⟩, fun z hz => by simp [out0] at hz; subst hz; exact Int.le_refl _, (-1, []), rfl, h.symm⟩
/-- A history performed. -/
theorem mapsX_spec {l : List Cl} (hb : bad l = none) {s : Md} (hs : s.l = []) :
    match mapsX s l with
    | .ok o2 => Maps o2 ∧ (∃ s2, runF l (effL l) s = some s2 ∧ ∃ z, o2.getLast? = some z ∧ z.2 = s2.l) ∧ ∀ st, -1 ≤ st → atF [] o2 st = (stAt l (effL l) s st).l
    | .error _ => runF l (effL l) s = none := by
  have hE := effL_is hb
  have hsp := statesM_spec l (effL l) s out0 (-1) (inv_out0 hs) hE.1 (fun i hi => by
    obtain ⟨x, hx, h0⟩ := (hE.2 i).1 hi
    rw [tk_of hx]; omega)
  unfold mapsX
  cases hm : statesM l (effL l) s out0 with
  | error i => rw [hm] at hsp; exact hsp
  | ok o2 =>
    rw [hm] at hsp
    simp only at hsp ⊢
    obtain ⟨⟨s2, hr, T2, hi⟩, hat⟩ := hsp
    exact ⟨⟨hi.asc_, hi.head⟩, ⟨s2, hr, hi.last⟩, fun st hst => by rw [hat st, if_pos hst]⟩
theorem stAt_all (l : List Cl) : ∀ (ord : List Nat) (s s2 : Md) (st : Int), (∀ i ∈ ord, tk l i ≤ st) → runF l ord s = some s2 → stAt l ord s st = s2
  | [], s, s2, st, _, h => by simp only [runF] at h; injection h
  | i :: t, s, s2, st, hst, h => by
    rw [runF] at h
    rw [stAt]
    cases hx : l[i]? with
    | none => rw [hx] at h; cases h
    | some c =>
      rw [hx] at h
      simp only at h ⊢
      have := hst i (by simp)
      rw [tk_of hx] at this
      rw [if_pos this]
      cases hf : fitsM s c with
      | none => rw [hf] at h; cases h
      | some s' =>
        rw [hf] at h
        simp only at h ⊢
        exact stAt_all l t s' s2 st (fun j hj => hst j (by simp [hj])) h
/-! What fits changes. -/
/-- A read leaves the model as it is. -/
theorem get_same {s : Md} {t : Int} {o : Ox} (hk : o.k = 3) : (doM s t o).2 = s ∧ ((doM s t o).1.err = 0 → (doM s t o).1 = ⟨0, hasK o.key s.l, 0, valL o.key s.l, 0⟩) := by
  by_cases hr : refM s t o = 0
  · obtain ⟨n, x, rfl, hx, hc, hre, hd⟩ := refM_zero hr
    rw [hd]
    unfold perfM
    simp [hk]
  · have e : doM s t o = (⟨refM s t o, false, 0, 0, 0⟩, s) := by unfold doM; rw [if_pos hr]
    rw [e]
    exact ⟨rfl, fun h => absurd h hr⟩
/-- A read's result is accepted exactly if it is the map's. -/
theorem get_acc {s : Md} {t : Int} {o : Ox} {r : Rs} (hk : o.k = 3) (he : r.err = 0) : (acceptM s t o r).1 = decide ((doM s t o).1.err = 0 ∧ r.fd = hasK o.key s.l ∧ r.key = 0 ∧ r.val = valL o.key s.l ∧ r.cnt = 0) ∧ (acceptM s t o r).2 = s := by
  by_cases hr : refM s t o = 0
  · obtain ⟨n, x, rfl, hx, hc, hre, hd⟩ := refM_zero hr
    have hp : perfM s n x o = (⟨0, hasK o.key s.l, 0, valL o.key s.l, 0⟩, s) := by unfold perfM; simp [hk]
    rw [hd, hp]
    unfold acceptM
    rw [if_neg (fun h => h hr), Int.toNat_natCast, hx]
    simp only
    rw [if_neg (by rw [he, gives_zero]; simp), if_neg (by omega), if_neg (by omega), hp]
    obtain ⟨a, b, c, d, e⟩ := r
    simp only at he
    subst he
    by_cases hq : (⟨0, hasK o.key s.l, 0, valL o.key s.l, 0⟩ : Rs) = ⟨0, b, c, d, e⟩
    · rw [if_pos hq]
      simp only [Rs.mk.injEq, true_and] at hq
      obtain ⟨h1, h2, h3, h4⟩ := hq
      exact ⟨by simp [← h1, ← h2, ← h3, ← h4], rfl⟩
    · rw [if_neg hq]
      refine ⟨?_, rfl⟩
      symm
      rw [decide_eq_false_iff_not]
      rintro ⟨-, h1, h2, h3, h4⟩
      exact hq (by simp only at h1 h2 h3 h4; rw [h1, h2, h3, h4])
  · have e : (doM s t o).1.err = refM s t o := by unfold doM; rw [if_pos hr]
    unfold acceptM
    rw [if_pos hr, e]
    refine ⟨?_, rfl⟩
    rw [decide_eq_false (fun h => hr h.1), he]
    cases hq : (0 : Int) == refM s t o with
    | true => exact absurd (by simpa using hq : (0 : Int) = refM s t o) (fun h => hr h.symm)
    | false => simp
/-- A result OK of an operation that writes is accepted exactly if it is Do's, and leads where Do leads. -/
theorem write_acc {s : Md} {t : Int} {o : Ox} {r : Rs} (hk : 4 ≤ o.k ∧ o.k ≤ 9) (he : r.err = 0) (h : (acceptM s t o r).1 = true) : (acceptM s t o r).2 = (doM s t o).2 := by
  by_cases hr : refM s t o = 0
  · obtain ⟨n, x, rfl, hx, hc, hre, hd⟩ := refM_zero hr
    rw [hd]
    unfold acceptM at h ⊢
    rw [if_neg (fun h => h hr), Int.toNat_natCast, hx] at h ⊢
    simp only at h ⊢
    rw [if_neg (by rw [he, gives_zero]; simp), if_neg (by omega), if_neg (by omega)] at h ⊢
    by_cases h4 : (perfM s n x o).1 = r
    · rw [if_pos h4]
    · rw [if_neg h4] at h; cases h
  · unfold acceptM at h
    rw [if_pos hr, he] at h
    simp at h
    exact absurd h.2.symm hr
/-- What a call that fits makes of the pairs. -/
theorem fits_l {s s' : Md} {c : Cl} (h : fitsM s c = some s') : s'.l = s.l ∨ s'.l = (doM s c.th (opC c)).2.l := by
  unfold fitsM at h
  split at h
  · cases h
  · split at h
    · split at h
      · injection h with h; rw [← h]; exact .inr rfl
      · cases h
    · unfold nextM at h
      split at h
      · injection h with h; rw [← h]; exact .inr rfl
      · split at h
        · injection h with h; rw [← h]
          exact (acc_pairs s c.th (opC c) (rsC c)).imp id (fun h => h.2)
        · cases h
end Go.Proofs.YtfnapkfdocabcaaGreat
