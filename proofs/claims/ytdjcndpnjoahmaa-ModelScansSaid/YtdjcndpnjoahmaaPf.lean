import Derived.Test.YtdjcndpnjoahmaaPe
import Derived.Maps.AppendAt
namespace Go.Proofs.Ytdjcndpnjoahmaa
open Go.RowKit Go.Xt
/-! The ordered map: what it holds in memory; slices.Insert, find, set at any pairs. -/
def Moved (w : World) (v v' : Value) : Prop := v'.ownBlock = v.ownBlock ∨ ∃ g, v'.ownBlock = some g ∧ w.heap.size ≤ g
set_option maxRecDepth 20000 in
set_option maxHeartbeats 4000000 in
theorem insert_last (v : Value) (n : Nat) (l : List (Int × Int)) (gv : Nat) (k x : Int) (w : World) (hown : w.ownsRow 0 39 2 v n (pcells l)) (hn : n ≤ 1000000)
    (h0 : w.cell? ⟨gv, 0, none⟩ = some (.int .u64 k)) (h1 : w.cell? ⟨gv, 1, none⟩ = some (.int .u64 x)) :
    Calls Try.prog 58 #[v, .int .i64 n, .slice (some ⟨gv, 0, none⟩) 1 1] w fun e w' => ∃ v', e = .returned v' ∧ w'.ownsRow 0 39 2 v' (n + 1) (pcells (l ++ [(k, x)])) ∧ w.grownBy w' v.ownBlock ∧ Moved w v v' := by
  haveI : In gv w := ⟨World.block_lt_of_cell? w _ h0⟩
  have HO := Lib.hid hown
  obtain ⟨i, hi1, hz0, hz1, hz2⟩ := info_parts pairInfo
  have HI := Lib.hid (⟨hi1, hz0, hz1, hz2⟩ : _ ∧ _ ∧ _ ∧ _)
  clear hi1 hz0 hz1 hz2
  have hnews : ∀ j u, [Value.int .u64 k, Value.int .u64 x][j]? = some u → w.cell? ((⟨gv, 0, none⟩ : Addr).add j) = some u := by
    intro j u hu
    have hadd : (⟨gv, 0, none⟩ : Addr).add j = ⟨gv, j, none⟩ := by unfold Addr.add; split <;> simp_all
    rw [hadd]
    match j, hu with
    | 0, hu => simp at hu; subst hu; exact h0
    | 1, hu => simp at hu; subst hu; exact h1
    | j + 2, hu => simp at hu
  have HN := Lib.hid hnews
  clear hnews
  have fin : ∀ (w' : World) (v' : Value), w'.ownsRow 0 39 2 v' (n + 1) (pcells l ++ [.int .u64 k, .int .u64 x]) → w'.ownsRow 0 39 2 v' (n + 1) (pcells (l ++ [(k, x)])) := fun w' v' h => by rw [pcells_app]; exact h
  have FIN := Lib.hid fin
  have mvd : ∀ (v' : Value), (v'.ownBlock = v.ownBlock ∨ v'.ownBlock = some w.heap.size) → Moved w v v' := fun v' h => h.imp id fun h => ⟨_, h, Nat.le_refl _⟩
  have MVD := Lib.hid mvd
  clear fin mvd
  rcases own_forms hown with ⟨rfl, rfl⟩ | ⟨g, c, rfl, hg, hin, hc1, hc2⟩
  · clear hown
    go_enter Try.func58, Try.ntmps58
    go_wp2_with (at_builtin; refine wpList_append_own_at w rfl _ _ 36 rfl 0 39 i (.agg #[.int .u64 0, .int .u64 0]) 2 16 Try.underlying36 HI.out.1 HI.out.2.1 HI.out.2.2.1 HI.out.2.2.2 rfl (by decide) _ 0 _ rfl HO.out ⟨gv, 0, none⟩ 1 1 [.int .u64 k, .int .u64 x] rfl rfl HN.out (by intro u hu; simp at hu; rcases hu with rfl | rfl <;> rfl) (by unfold maxLen; omega) (by omega) (Nat.zero_le _) ?_; intro vA wA hownA hgrA _ hmvA)
    exact bodyPost_ret (results_tmp rfl _ _ _) rfl ⟨vA, rfl, FIN.out _ _ hownA, hgrA, MVD.out _ hmvA⟩
  · have c1 : (n : Int) ≤ (c : Int) := by omega
    clear hown
    go_enter Try.func58, Try.ntmps58
    go_wp2_with (at_builtin; refine wpList_append_own_at w rfl _ _ 36 rfl 0 39 i (.agg #[.int .u64 0, .int .u64 0]) 2 16 Try.underlying36 HI.out.1 HI.out.2.1 HI.out.2.2.1 HI.out.2.2.2 rfl (by decide) _ n _ rfl HO.out ⟨gv, 0, none⟩ 1 1 [.int .u64 k, .int .u64 x] rfl rfl HN.out (by intro u hu; simp at hu; rcases hu with rfl | rfl <;> rfl) (by unfold maxLen; omega) (by omega) (Nat.zero_le _) ?_; intro vA wA hownA hgrA _ hmvA)
    all_goals exact bodyPost_ret (results_tmp rfl _ _ _) rfl ⟨vA, rfl, FIN.out _ _ hownA, hgrA, MVD.out _ hmvA⟩
theorem insM_end (l : List (Int × Int)) (y : Int × Int) : insM l l.length y = l ++ [y] := by simp [insM]
theorem insert_any (v : Value) (n : Nat) (l : List (Int × Int)) (P gv : Nat) (k x : Int) (w : World) (hown : w.ownsRow 0 39 2 v n (pcells l)) (hl : l.length = n) (hP : P ≤ n) (hn : n ≤ 1000000)
    (h0 : w.cell? ⟨gv, 0, none⟩ = some (.int .u64 k)) (h1 : w.cell? ⟨gv, 1, none⟩ = some (.int .u64 x)) (hne : v.ownBlock ≠ some gv) (tA : TypeId) (kA : Nat) (hsv : w.shape? gv = some (tA, kA)) (hfv : ∀ o, w.frozen? ⟨gv, o, none⟩ = false) :
    Calls Try.prog 58 #[v, .int .i64 P, .slice (some ⟨gv, 0, none⟩) 1 1] w fun e w' => ∃ v', e = .returned v' ∧ w'.ownsRow 0 39 2 v' (n + 1) (pcells (insM l P (k, x))) ∧ w.grownBy w' v.ownBlock ∧ Moved w v v' := by
  by_cases h : P = n
  · subst h
    rw [← hl, insM_end, hl]
    exact insert_last v P l gv k x w hown hn h0 h1
  · rcases own_forms hown with ⟨rfl, rfl⟩ | ⟨g, c, rfl, hg, hin, hc1, hc2⟩
    · omega
    · by_cases hc : n + 1 ≤ c
      · refine (insert_mid 0 g n c l P gv k x w hown hl (by omega) hc hn h0 h1 (fun e => hne (by rw [e]; rfl)) tA kA hsv hfv).mono ?_
        rintro e w' ⟨rfl, ho, hg⟩
        exact ⟨_, rfl, ho, hg, .inl rfl⟩
      · obtain rfl : n = c := by omega
        refine (insert_grow 0 g n l P gv k x w hown (Nat.zero_le _) hl (by omega) hn h0 h1).mono ?_
        rintro e w' ⟨v', rfl, ho, hnw, hmv⟩
        exact ⟨_, rfl, ho, grown_weak hnw.grown _, .inr hmv⟩
end Go.Proofs.Ytdjcndpnjoahmaa
