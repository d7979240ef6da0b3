import Derived.Test.YtmbjpjpdcmjjgaaGreatDoorGKe
import Derived.Test.YtmbjpjpdcmjjgaaGreatDoorGY
import Derived.Shelf.SlSortCmp.Insertion1
import Derived.Shelf.SlSortCmp.QuietGrown
set_option linter.unusedVariables false
set_option linter.unusedSimpArgs false
set_option linter.unnecessarySimpa false
namespace Go.Proofs.YtmbjpjpdcmjjgaaGreatDoor
open Go.RowKit Go.Xt Go.Shelf Go.Sort
/-! The order's comparison; a stable sort of at most twenty. -/
def nbW (b : Bool) : Int := if b = true then 1 else 0
def cfW (p q : Int) (x y : Bool) : Int := if p - q = 0 then nbW x - nbW y else p - q
set_option maxHeartbeats 1000000 in
theorem read_ex (c : Cl) (w : World) :
    Calls Tryz.prog 21 #[cv c] w fun e w' => e = .returned (.bool (readB c)) ∧ ∃ q os', w' = grow (w.drewN q) os' := by
  go_enter Tryz.func21, Tryz.ntmps21
  go_wp2
  all_goals (go_ret; refine ⟨ret_bool ?_, 0, _, alloc_eq_grow _ _⟩)
  all_goals (simp_all [readB])
  all_goals first | rfl | (intro h; omega) | omega
theorem number_ex (b : Bool) (w : World) :
    Calls Tryz.prog 29 #[.bool b] w fun e w' => e = .returned (.int .i64 (nbW b)) ∧ ∃ q os', w' = grow (w.drewN q) os' := by
  cases b <;>
  · go_enter Tryz.func29, Tryz.ntmps29
    go_wp2
    go_ret
    exact ⟨rfl, 0, #[], (grow_empty _).symm⟩
instance {w : World} {b o n : Nat} {os : Array Obj} {c : Cl} [h : CallAt w b o c] : CallAt (grow (w.drewN n) os) b o c := by
  obtain ⟨k, rfl⟩ : ∃ k, k = (n : Nat) := ⟨_, rfl⟩
  have hs : w.heap.size ≤ (grow (w.drewN k) os).heap.size := by rw [size_grow]; exact Nat.le_add_right _ _
  refine ⟨?_, Nat.lt_of_lt_of_le h.lt hs⟩
  have hc : ∀ t, (grow (w.drewN k) os).cell? ⟨b, t, none⟩ = w.cell? ⟨b, t, none⟩ := fun t => cell?_grow _ _ _ h.lt
  have ha := h.at_
  unfold AtC at ha ⊢
  simp only [hc]
  exact ha
set_option maxHeartbeats 4000000 in
theorem ordcl_any (W : World) (B6 B3 bs os cs b o n c i j : Nat) (p q : Int) (x y : Cl)
    (h6 : W.cell? ⟨B6, 0, none⟩ = some (.slice (some ⟨bs, os, none⟩) n cs)) (h3 : W.cell? ⟨B3, 0, none⟩ = some (.slice (some ⟨b, o, none⟩) n c))
    (hi : i < n) (hj : j < n) (hn : n ≤ 1000000) (ci : W.cell? ⟨bs, os + i, none⟩ = some (.int .i64 p)) (cj : W.cell? ⟨bs, os + j, none⟩ = some (.int .i64 q))
    (hx : CallAt W b (o + i * 18) x) (hy : CallAt W b (o + j * 18) y) (p0 : 0 ≤ p) (p1 : p ≤ 9223372036854775807) (q0 : 0 ≤ q) (q1 : q ≤ 9223372036854775807) :
    Calls Tryz.prog 28 #[.int .i64 (i : Int), .int .i64 (j : Int), .pointer (some ⟨B6, 0, none⟩), .pointer (some ⟨B3, 0, none⟩)] W fun e w' => e = .returned (.int .i64 (cfW p q (readB x) (readB y))) ∧ ∃ k os', w' = grow (W.drewN k) os' := by
  go_enter Tryz.func28, Tryz.ntmps28
  go_wp2
  go_quiet (fail)
  obtain ⟨k0, hk0⟩ : ∃ k0, k0 = nq := ⟨_, rfl⟩
  rw [← hk0]
  clear hk0
  by_cases hd : p - q = 0
  · obtain rfl : p = q := by omega
    have hB3 := World.block_lt_of_cell? W _ h3
    haveI := hx
    haveI := hy
    generalize hW : W.drewN k0 = W1
    have h3' : ∀ n' os', (grow (W1.drewN n') os').cell? ⟨B3, 0, none⟩ = some (.slice (some ⟨b, o, none⟩) n c) := fun n' os' => by
      rw [← hW]; exact cell_grown hB3 h3 n' os'
    haveI : CallAt W1 b (o + i * 18) x := hW ▸ inferInstance
    haveI : CallAt W1 b (o + j * 18) y := hW ▸ inferInstance
    have mixed : Tryz.prog.follows .mixedOrders = true := sortL.mixed
    go_wp2_with fail
    go_quiet_grown (first | exact Calls.grown_of (read_ex _ _) | exact Calls.grown_of (number_ex _ _))
    go_wp2
    go_ret
    refine ⟨congrArg (fun z => Ending.returned (.int .i64 z)) ?_, k0 + nq, osq, by rw [← hW, World.drewN_drewN]⟩
    unfold cfW
    rw [if_pos (by omega)]
    cases readB x <;> cases readB y <;> rfl
  · have hw : IntKind.i64.wrap (p - q) = p - q := by rw [IntKind.wrap_i64]; omega
    go_wp2_with fail
    go_ret
    refine ⟨congrArg (fun z => Ending.returned (.int .i64 z)) ?_, k0, #[], (grow_empty _).symm⟩
    unfold cfW
    rw [if_neg hd]
end Go.Proofs.YtmbjpjpdcmjjgaaGreatDoor
namespace Go.Proofs.YtmbjpjpdcmjjgaaGreatDoor
open Go.RowKit Go.Xt Go.Shelf Go.Sort
def SoL {α : Type} [Inhabited α] (enc : α → Value) (cf : α → α → Int) (blk off : Nat) (d : Array α) (w w' : World) : Prop :=
  ∃ d' : Array α, d'.size = d.size ∧ PermIn 0 d.size d d' ∧ SortedIn (ltOf cf) 0 d.size d' ∧ SW enc w blk off d' w'
set_option maxRecDepth 20000 in
set_option maxHeartbeats 4000000 in
theorem stable_any {α : Type} [Inhabited α] (enc : α → Value) (cf : α → α → Int) (hS : SWO (ltOf cf)) (g : Nat) (cb : Array Value) (blk off cap n : Nat) (d : Array α) (w : World)
    (eg : ∀ args w, (callFunc g args).run Tryz.prog w = .ok (.enter g args) w) (hcmp : CmpLays1 Tryz.prog g cb enc cf blk off d.size w) (R : Row1 enc w blk off d) (hd : d.size = n) (hn : n ≤ 20) :
    Calls Tryz.prog 43 #[.slice (some ⟨blk, off, none⟩) n cap, .int .i64 (n : Int), .func (.func g) #[] cb] w fun e w' => e = .returned (.tuple #[]) ∧ SoL enc cf blk off d w w' := by
  have hins : insertionSort_stmt (ltOf cf) := insertionSort_holds
  have HI := Lib.hid (fun (a b : Nat) (dk : Array α) (W : World) (hk : dk.size = n) (S : SW enc w blk off dk W) (hab : a ≤ b) (hb : b ≤ n) =>
    show Calls Tryz.prog 67 #[.slice (some ⟨blk, off, none⟩) n cap, .int .i64 a, .int .i64 b, .func (.func g) #[] cb] W fun e w' => e = .returned (.tuple #[]) ∧ SW enc w blk off (Sort.insertionSort (ltOf cf) dk a b) w' from
      hk ▸ Any.insertionSortCmpFunc_s (L := { sortL with }) enc cf g cb blk off cap a b d dk w W eg hcmp R (by omega) S hab (by omega) (by omega))
  have H1 := Lib.hid (hins hS d 0 n (Nat.zero_le _) (by omega))
  have H0 := Lib.hid (SW.start R.hH)
  have HD := Lib.hid hd
  have HF := Lib.hid (show SW enc w blk off (Sort.insertionSort (ltOf cf) d 0 n) = SW enc w blk off (Sort.insertionSort (ltOf cf) (Sort.insertionSort (ltOf cf) d 0 n) n n) from
    congrArg (SW enc w blk off) (insOuter_stop (lt := ltOf cf) n n (n + 1) _ (by omega)).symm)
  have hres : ∀ W, SW enc w blk off (Sort.insertionSort (ltOf cf) d 0 n) W → SoL enc cf blk off d w W := fun W h => ⟨_, H1.out.1.1, HD.out ▸ H1.out.1, HD.out ▸ H1.out.2, h⟩
  have HRES := Lib.hid hres
  clear hres R hcmp hd eg hins
  go_enter Tryz.func43, Tryz.ntmps43
  go_wp2_with fail
  go_loopw [7, 8] (fun a b wr => ∃ k : Bool, a = .int .i64 (cond k 20 0) ∧ b = .int .i64 (cond k 40 20) ∧ Hid (cond k (n = 20 ∧ SW enc w blk off (Sort.insertionSort (ltOf cf) d 0 n) wr) (wr = w))) (fun a _ _ => 20 - (intOf a).toNat)
  case atStart => exact ⟨false, rfl, rfl, Lib.hid rfl⟩
  case round =>
    obtain ⟨k, rfl, rfl, hk⟩ := hrel
    cases k with
    | false =>
      obtain rfl := hk.out
      clear hk
      dsimp only [cond]
      by_cases h20 : n = 20
      · have hle : (20 : Int) ≤ (n : Int) := by omega
        have H20 := Lib.hid h20
        clear h20
        go_wp2_with fail
        refine (HI.out 0 20 d _ HD.out H0.out (by omega) (by have := H20.out; omega)).mono ?_
        rintro e W1 ⟨rfl, hs⟩
        have HS := Lib.hid hs
        clear hs
        go_wp2_with fail
        exact ⟨⟨true, rfl, rfl, Lib.hid ⟨H20.out, by have h := HS.out; rwa [show (20 : Nat) = n from H20.out.symm] at h⟩⟩, by simp [intOf]⟩
      · have hlt : (n : Int) < 20 := by omega
        go_wp2_with fail
        refine (HI.out 0 n d _ HD.out H0.out (by omega) (by omega)).mono ?_
        rintro e W1 ⟨rfl, hs⟩
        have HS := Lib.hid (HRES.out _ hs)
        clear hs
        go_wp2_with fail
        go_loopw [6, 7, 8, 9] (fun bs _ _ _ wr => bs = .int .i64 20 ∧ wr = W1) (fun _ _ _ _ _ => 0)
        case atStart => exact ⟨rfl, rfl⟩
        case round =>
          obtain ⟨rfl, rfl⟩ := hrel
          go_wp2
          go_end0
          exact ⟨rfl, HS.out⟩
    | true =>
      obtain ⟨h20, hs⟩ := hk.out
      have hlt : ¬ (40 : Int) ≤ (n : Int) := by omega
      have h20z : (n : Int) = 20 := by omega
      have HS0 := Lib.hid hs
      clear hk hs
      dsimp only [cond]
      have H20 := Lib.hid h20
      clear h20z h20
      go_wp2_with fail
      have hc := HI.out 20 n (Sort.insertionSort (ltOf cf) d 0 n) wr (H1.out.1.1.trans HD.out) HS0.out (by have := H20.out; omega) (Nat.le_refl _)
      refine hc.mono ?_
      rintro e W1 ⟨rfl, hs1⟩
      have HS := Lib.hid (HRES.out _ (by have h := hs1; rw [show (20 : Nat) = n from H20.out.symm] at h; rw [HF.out]; exact h))
      clear hs1
      go_wp2_with fail
      go_loopw [6, 7, 8, 9] (fun bs _ _ _ wr => bs = .int .i64 20 ∧ wr = W1) (fun _ _ _ _ _ => 0)
      case atStart => exact ⟨rfl, rfl⟩
      case round =>
        obtain ⟨rfl, rfl⟩ := hrel
        go_wp2
        go_end0
        exact ⟨rfl, HS.out⟩
end Go.Proofs.YtmbjpjpdcmjjgaaGreatDoor
