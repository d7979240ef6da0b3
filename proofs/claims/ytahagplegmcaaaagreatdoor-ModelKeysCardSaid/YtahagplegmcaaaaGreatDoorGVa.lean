import Derived.Test.YtahagplegmcaaaaGreatDoorGPj
set_option linter.unusedVariables false
set_option linter.unusedSimpArgs false
set_option linter.unnecessarySimpa false
namespace Go.Proofs.YtahagplegmcaaaaGreatDoor
open Go.RowKit Go.Xt
/-! The reference's map (layer 5). -/
theorem om_rd {W : World} {gp : Nat} {v : Value} {l : List (Int × Int)} (h : OM W gp v l) : ∃ A c, v = .slice A l.length c ∧ Rd W 2 A l.length (pcells l) := by
  rcases h.form with ⟨rfl, rfl⟩ | ⟨g, c, rfl, -, -, hin⟩
  · exact ⟨none, 0, rfl, rfl, fun h => by simp at h⟩
  · exact ⟨_, c, rfl, pcells_len l, fun hl => ⟨g, 0, rfl, hin.lt, fun j u hu => by
      have := (List.getElem?_eq_some_iff.1 hu).1
      rw [pcells_len] at this
      rw [Nat.zero_add, h.row.cellAt _ this]; exact hu⟩⟩
theorem pos_at {k : Int} : ∀ {l : List (Int × Int)} {i : Nat} {x : Int}, asc l → l[i]? = some (k, x) → pos k l = i ∧ hasK k l = true
  | [], i, x, _, h => by simp at h
  | y :: r, 0, x, _, h => by
    simp at h; subst h
    rw [pos, hasK_cons]; simp
  | y :: r, i + 1, x, ha, h => by
    have h2 := List.pairwise_cons.1 ha
    have h3 : r[i]? = some (k, x) := by simpa using h
    have h4 := h2.1 _ (List.mem_of_getElem? h3)
    have h4 : y.1 < k := h4
    obtain ⟨e1, e2⟩ := pos_at h2.2 h3
    rw [pos, hasK_cons, if_pos h4, if_pos h4]
    exact ⟨by rw [e1], e2⟩
theorem hasK_no {k : Int} : ∀ {l : List (Int × Int)}, (∀ z ∈ l, z.1 ≠ k) → hasK k l = false
  | [], _ => rfl
  | y :: r, h => by
    rw [hasK_cons]
    split
    · exact hasK_no (fun z hz => h z (by simp [hz]))
    · simpa using h y (by simp)
/-- A map of the reference that has been worked on. -/
structure RUpd (w : World) (gp : Nat) (v : Value) (l : List (Int × Int)) (v' : Value) (w' : World) : Prop where
  om : OM w' gp v' l
  chg : Chg (foot gp v) w w'
  mv : ∀ g, v'.ownBlock = some g → v.ownBlock = some g ∨ w.heap.size ≤ g
section
variable {w w1 w2 w' : World} {gp : Nat} {v v1 v2 v' : Value} {l l1 l2 : List (Int × Int)}
theorem RUpd.same (h : OM w gp v l) (hn : Nw w w') : RUpd w gp v l v w' := ⟨h.nw hn, (Chg.of_nw hn : Chg [] w w').wide (by simp), fun _ h => .inl h⟩
theorem RUpd.after (hn : Nw w w2) (h : RUpd w2 gp v l v' w') : RUpd w gp v l v' w' :=
  ⟨h.om, (Chg.of_nw hn).trans h.chg, fun g hg => (h.mv g hg).imp id fun h => Nat.le_trans hn.grown.size h⟩
theorem RUpd.nw (h : RUpd w gp v l v' w2) (hn : Nw w2 w') : RUpd w gp v l v' w' := ⟨h.om.nw hn, h.chg.trans (Chg.of_nw hn), h.mv⟩
theorem RUpd.trans (h : RUpd w gp v l1 v1 w1) (k : RUpd w1 gp v1 l2 v2 w2) : RUpd w gp v l2 v2 w2 := by
  refine ⟨k.om, h.chg.then k.chg fun y hy => ?_, fun g hg => ?_⟩
  · rcases mem_foot.1 hy with rfl | hy
    · exact .inl (mem_foot.2 (.inl rfl))
    · exact (h.mv y hy).imp (fun e => mem_foot.2 (.inr e)) id
  · rcases k.mv g hg with e | e
    · exact h.mv g e
    · exact .inr (Nat.le_trans h.chg.size e)
/-- The slice is stored. -/
theorem RUpd.store {W : World} {x : Value} (hp : W.cell? ⟨gp, 0, none⟩ = some x) (hz : W.frozen? ⟨gp, 0, none⟩ = false) (hrow : W.ownsRow 0 106 2 v' l.length (pcells l)) (ne : v'.ownBlock ≠ some gp) (ha : asc l) (hc : Nw w W) (hm : ∀ g, v'.ownBlock = some g → w.heap.size ≤ g) : RUpd w gp v l v' (W.setCell ⟨gp, 0, none⟩ v') := by
  have hs1 := Chg.set1 W gp 0 v'
  exact ⟨⟨World.cell?_setCell_same _ _ _ hp, own_chg hrow hs1 (fun g hg hx => by simp at hx; subst hx; exact ne hg), ne, by rw [World.frozen?_setCell]; exact hz, ha⟩,
    (Chg.of_nw hc).trans (hs1.wide (fun y hy => by simp at hy; subst hy; exact mem_foot.2 (.inl rfl))), fun g hg => .inr (hm g hg)⟩
end
/-- The index of a key, or -1. -/
def placeL (k : Int) (l : List (Int × Int)) : Int := if hasK k l = true then (pos k l : Int) else -1
set_option maxRecDepth 20000 in
set_option maxHeartbeats 4000000 in
theorem rplace_om {w : World} {gp : Nat} {v : Value} {l : List (Int × Int)} (h : OM w gp v l) (hn : l.length ≤ 1000000) (k : Int) :
    Calls Tryz.prog 65 #[.pointer (some ⟨gp, 0, none⟩), .int .u64 k] w fun e w' => e = .returned (.int .i64 (placeL k l)) ∧ Nw w w' := by
  have p0 := h.p0
  haveI : In gp w := ⟨h.lt⟩
  obtain ⟨A, c, rfl, hr⟩ := om_rd h
  have HR := Lib.hid hr
  have HA := Lib.hid h.asc
  obtain ⟨n, hne⟩ : ∃ n, n = l.length := ⟨_, rfl⟩
  rw [← hne] at p0 HR hn
  have HN := Lib.hid hne
  have HNN := Lib.hid hn
  clear h hr hne hn
  go_enter Tryz.func65, Tryz.ntmps65
  go_wp2_with fail
  go_loopw [5] (fun a wr => ∃ i : Nat, i ≤ n ∧ a = .int .i64 i ∧ Nw w wr ∧ Hid (∀ z ∈ l.take i, z.1 ≠ k)) (fun a _ => n - (intOf a).toNat)
  case atStart => exact ⟨0, Nat.zero_le _, rfl, (by repeat (first | exact Xt.Nw.refl _ | refine Xt.Nw.drew ?_ | refine Xt.Nw.drewN ?_ _ | refine Xt.Nw.alloc ?_ _ | refine Xt.Nw.joined ?_ | refine Xt.Nw.drewd ?_ | refine Xt.Nw.drewdN ?_ | refine Xt.Nw.ext ?_ | refine Xt.Nw.ext_some ?_ (by assumption) | refine Xt.Nw.setCell ?_ (by simp [go_sem] <;> omega) _)), Lib.hid (by simp)⟩
  case round =>
    obtain ⟨i, hi, rfl, ⟨d, rfl⟩, HT⟩ := hrel
    have i0 : (0 : Int) ≤ (i : Int) := by omega
    by_cases hin : i < n
    · have i1 : (i : Int) < (n : Int) := by omega
      have i2 : i < 1000000 := by have := HNN.out; omega
      obtain ⟨g, o, rfl, hg, hc⟩ := HR.out.2 (by omega)
      haveI : In g w := ⟨hg⟩
      obtain ⟨⟨zk, zx⟩, hz⟩ : ∃ z, l[i]? = some z := ⟨_, List.getElem?_eq_getElem (by have := HN.out; omega)⟩
      have y0 : w.cell? ⟨g, o + i * 2, none⟩ = some (.int .u64 zk) := hc _ _ (pcells_get l i _ hz).1
      have HZ := Lib.hid hz
      have HIN := Lib.hid hin
      clear hz hc hin hi
      by_cases hk : zk = k
      · have d0 : (zk == k) = true := by simpa using hk
        have HK := Lib.hid hk
        clear hk
        go_wp2
        go_ret
        have hz := HZ.out
        rw [HK.out] at hz
        obtain ⟨e1, e2⟩ := pos_at HA.out hz
        refine ⟨ret_int ?_, (by repeat (first | exact Xt.Nw.refl _ | refine Xt.Nw.drew ?_ | refine Xt.Nw.drewN ?_ _ | refine Xt.Nw.alloc ?_ _ | refine Xt.Nw.joined ?_ | refine Xt.Nw.drewd ?_ | refine Xt.Nw.drewdN ?_ | refine Xt.Nw.ext ?_ | refine Xt.Nw.ext_some ?_ (by assumption) | refine Xt.Nw.setCell ?_ (by simp [go_sem] <;> omega) _))⟩
        unfold placeL
        rw [if_pos e2, e1]
      · have d0 : (zk == k) = false := by simpa using hk
        have HK := Lib.hid hk
        clear hk
        go_wp2
        refine ⟨⟨i + 1, by have := HIN.out; omega, by go_num, (by repeat (first | exact Xt.Nw.refl _ | refine Xt.Nw.drew ?_ | refine Xt.Nw.drewN ?_ _ | refine Xt.Nw.alloc ?_ _ | refine Xt.Nw.joined ?_ | refine Xt.Nw.drewd ?_ | refine Xt.Nw.drewdN ?_ | refine Xt.Nw.ext ?_ | refine Xt.Nw.ext_some ?_ (by assumption) | refine Xt.Nw.setCell ?_ (by simp [go_sem] <;> omega) _)), Lib.hid ?_⟩, by have := HIN.out; simp [intOf]; omega⟩
        intro z hz2
        obtain ⟨p, e⟩ := List.getElem?_eq_some_iff.1 HZ.out
        rw [List.take_succ_eq_append_getElem p, e] at hz2
        rcases List.mem_append.1 hz2 with h | h
        · exact HT.out z h
        · simp at h; subst h; exact HK.out
    · have i1 : ¬ (i : Int) < (n : Int) := by omega
      go_wp2
      go_ret
      refine ⟨ret_int ?_, (by repeat (first | exact Xt.Nw.refl _ | refine Xt.Nw.drew ?_ | refine Xt.Nw.drewN ?_ _ | refine Xt.Nw.alloc ?_ _ | refine Xt.Nw.joined ?_ | refine Xt.Nw.drewd ?_ | refine Xt.Nw.drewdN ?_ | refine Xt.Nw.ext ?_ | refine Xt.Nw.ext_some ?_ (by assumption) | refine Xt.Nw.setCell ?_ (by simp [go_sem] <;> omega) _))⟩
      have h := HT.out
      rw [List.take_of_length_le (by have := HN.out; omega)] at h
      unfold placeL
      rw [if_neg (by rw [hasK_no h]; simp)]
set_option maxRecDepth 20000 in
set_option maxHeartbeats 4000000 in
theorem rget_om {w : World} {gp : Nat} {v : Value} {l : List (Int × Int)} (h : OM w gp v l) (hn : l.length ≤ 1000000) (k : Int) :
    Calls Tryz.prog 22 #[.pointer (some ⟨gp, 0, none⟩), .int .u64 k] w fun e w' => e = .returned (.tuple #[.int .u64 (valL k l), .bool (hasK k l)]) ∧ Nw w w' := by
  have p0 := h.p0
  haveI : In gp w := ⟨h.lt⟩
  have HF := Lib.hid (fun W (hW : Nw w W) => rplace_om (h.nw hW) hn k)
  unfold placeL at HF
  cases hh : hasK k l with
  | false =>
    rw [val_not hh]
    simp only [hh] at HF
    clear h hn hh
    go_enter Tryz.func22, Tryz.ntmps22
    go_wp2_with fail
    refine (HF.out _ ((by repeat (first | exact Xt.Nw.refl _ | refine Xt.Nw.drew ?_ | refine Xt.Nw.drewN ?_ _ | refine Xt.Nw.alloc ?_ _ | refine Xt.Nw.joined ?_ | refine Xt.Nw.drewd ?_ | refine Xt.Nw.drewdN ?_ | refine Xt.Nw.ext ?_ | refine Xt.Nw.ext_some ?_ (by assumption) | refine Xt.Nw.setCell ?_ (by simp [go_sem] <;> omega) _)))).mono ?_
    rintro e w' ⟨rfl, dW, rfl⟩
    go_wp2
    exact bodyPost_ret (results_tmp2 rfl _ _ _) rfl ⟨rfl, (by repeat (first | exact Xt.Nw.refl _ | refine Xt.Nw.drew ?_ | refine Xt.Nw.drewN ?_ _ | refine Xt.Nw.alloc ?_ _ | refine Xt.Nw.joined ?_ | refine Xt.Nw.drewd ?_ | refine Xt.Nw.drewdN ?_ | refine Xt.Nw.ext ?_ | refine Xt.Nw.ext_some ?_ (by assumption) | refine Xt.Nw.setCell ?_ (by simp [go_sem] <;> omega) _))⟩
  | true =>
    have hat := get_at k l (valL k l) (by rw [get_val, hh]; rfl)
    have hP := (List.getElem?_eq_some_iff.1 hat).1
    rcases h.form with ⟨rfl, rfl⟩ | ⟨g, c, rfl, -, -, -⟩
    · cases hh
    have c1 := (h.pat.at' _ _ hat).2
    haveI : In g w := ⟨World.block_lt_of_cell? w _ c1⟩
    simp only [hh, if_true] at HF
    obtain ⟨P, hPe⟩ : ∃ P, P = pos k l := ⟨_, rfl⟩
    rw [← hPe] at HF hP c1
    obtain ⟨n, hne⟩ : ∃ n, n = l.length := ⟨_, rfl⟩
    rw [← hne] at hP p0
    obtain ⟨x, hx⟩ : ∃ x, x = valL k l := ⟨_, rfl⟩
    rw [← hx] at c1 ⊢
    have q1 : (P : Int) < (n : Int) := by omega
    have q0 : (0 : Int) ≤ (P : Int) := by omega
    have q2 : ¬ (P : Int) < 0 := by omega
    have q3 : decide ((P : Int) < 0) = false := by simp
    clear h hat hPe hne hx hh
    go_enter Tryz.func22, Tryz.ntmps22
    go_wp2_with fail
    refine (HF.out _ ((by repeat (first | exact Xt.Nw.refl _ | refine Xt.Nw.drew ?_ | refine Xt.Nw.drewN ?_ _ | refine Xt.Nw.alloc ?_ _ | refine Xt.Nw.joined ?_ | refine Xt.Nw.drewd ?_ | refine Xt.Nw.drewdN ?_ | refine Xt.Nw.ext ?_ | refine Xt.Nw.ext_some ?_ (by assumption) | refine Xt.Nw.setCell ?_ (by simp [go_sem] <;> omega) _)))).mono ?_
    rintro e w' ⟨rfl, dW, rfl⟩
    go_upto_region 3 with (fail)
    (refine wp_region_nw (by kernel_rfl) (by kernel_rfl) ?_; (repeat (go_big_quiet_step ((go_at_call 65; exact quiet_of (HF.out _ ((by repeat (first | exact Xt.Nw.refl _ | refine Xt.Nw.drew ?_ | refine Xt.Nw.drewN ?_ _ | refine Xt.Nw.alloc ?_ _ | refine Xt.Nw.joined ?_ | refine Xt.Nw.drewd ?_ | refine Xt.Nw.drewdN ?_ | refine Xt.Nw.ext ?_ | refine Xt.Nw.ext_some ?_ (by assumption) | refine Xt.Nw.setCell ?_ (by simp [go_sem] <;> omega) _)))))))); refine wpQuiet_nil ?_; intro _ hreg; obtain ⟨dW, rfl⟩ : Nw _ _ := hreg)
    go_wp2
    exact bodyPost_ret (results_tmp2 rfl _ _ _) rfl ⟨rfl, (by repeat (first | exact Xt.Nw.refl _ | refine Xt.Nw.drew ?_ | refine Xt.Nw.drewN ?_ _ | refine Xt.Nw.alloc ?_ _ | refine Xt.Nw.joined ?_ | refine Xt.Nw.drewd ?_ | refine Xt.Nw.drewdN ?_ | refine Xt.Nw.ext ?_ | refine Xt.Nw.ext_some ?_ (by assumption) | refine Xt.Nw.setCell ?_ (by simp [go_sem] <;> omega) _))⟩
end Go.Proofs.YtahagplegmcaaaaGreatDoor
