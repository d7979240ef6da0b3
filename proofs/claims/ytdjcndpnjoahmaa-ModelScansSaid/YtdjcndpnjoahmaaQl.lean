import Derived.Test.YtdjcndpnjoahmaaQk
namespace Go.Proofs.Ytdjcndpnjoahmaa
open Go.RowKit Go.Xt
/-! The model, plain: what every operation keeps; a scan. -/
theorem set_all {P : Th → Prop} {l : List Th} (h : ∀ x ∈ l, P x) {k : Nat} {y : Th} (hy : P y) : ∀ x ∈ l.set k y, P x := fun x hx => by
  rcases List.mem_or_eq_of_mem_set hx with h1 | rfl
  · exact h x h1
  · exact hy
theorem Md.Ok.mono {s : Md} {N N' : Nat} (h : s.Ok N) (hn : N ≤ N') : s.Ok N' := ⟨Nat.le_trans h.len hn, h.asc, h.u64, h.thn, h.th⟩
theorem Md.Ok.setT {s : Md} {N : Nat} (h : s.Ok N) (t : Nat) {y : Th} (hy : y.Ok) : Md.Ok { s with th := s.th.set t y } N :=
  ⟨h.len, h.asc, h.u64, by show (s.th.set t y).length ≤ 1000; rw [List.length_set]; exact h.thn, set_all h.th hy⟩
theorem Md.Ok.setL {s : Md} {N N' : Nat} (h : s.Ok N) {l : List (Int × Int)} (h1 : _root_.Go.Proofs.Ytdjcndpnjoahmaa.asc l) (h2 : U64s l) (h3 : l.length ≤ N') : Md.Ok { s with l := l } N' :=
  ⟨h3, h1, h2, h.thn, h.th⟩
theorem Th.Ok.fin {x : Th} (h : x.Ok) : x.fin.Ok := ⟨fun h => (by cases h), h.2.1, fun h => (by cases h)⟩
theorem Th.Ok.from_ {x : Th} (h : x.Ok) (k : Int) (hk : 0 ≤ k) : (x.from_ k).Ok := by
  unfold Th.from_
  split
  · rename_i hc
    have h1 := h.1 hc.1
    exact ⟨fun _ => ⟨by show 0 ≤ max x.lo k; omega, by show max x.lo k ≤ x.hi; omega, h1.2.2⟩, h.2.1, h.2.2⟩
  · exact h.fin
theorem Th.Ok.after {x : Th} (h : x.Ok) (k : Int) (hk : 0 ≤ k) : (x.after k).Ok := by
  unfold Th.after
  split
  · exact h.fin
  · exact h.from_ _ (by omega)
theorem U64s.put {l : List (Int × Int)} (h : U64s l) {k x : Int} (hk : 0 ≤ k ∧ k < 18446744073709551616) (hx : 0 ≤ x ∧ x < 18446744073709551616) : U64s (putL k x l) := fun z hz => by
  rcases put_mem hz with h1 | rfl
  · exact h z h1
  · exact ⟨hk, hx⟩
theorem U64s.sub {l m : List (Int × Int)} (h : U64s l) (hs : m.Sublist l) : U64s m := fun z hz => h z (hs.subset hz)
theorem U64s.mv {b : Int} : ∀ (r : List (Int × Int)) {l : List (Int × Int)}, U64s l → (∀ p ∈ r, (0 ≤ p.1 + b ∧ p.1 + b < 18446744073709551616) ∧ 0 ≤ p.2 ∧ p.2 < 18446744073709551616) → U64s (mvL b r l)
  | [], l, h, _ => h
  | p :: r, l, h, hr => U64s.mv r (h.put (hr p (by simp)).1 (hr p (by simp)).2) (fun q hq => hr q (by simp [hq]))
theorem perfM_ok {s : Md} {N : Nat} (hok : s.Ok N) {t : Nat} {x : Th} (ht : s.th[t]? = some x) {o : Ox} (hw : o.Wf) (hc : chkO o = 0) (hr : refE x o = 0) : (perfM s t x o).2.Ok (N + 1) := by
  have hx := hok.th x (List.mem_of_getElem? ht)
  obtain ⟨hk, hab, hby⟩ := chk_formed hc
  have w1 := hw.key
  have w2 := hw.hi
  have w3 := hw.val
  have w5 := hw.by_
  have hl1 : s.l.length ≤ N + 1 := Nat.le_succ_of_le hok.len
  unfold perfM
  by_cases k1 : o.k = 1
  · rw [if_pos k1]
    show (openM s t x).Ok (N + 1)
    unfold openM
    split
    · exact hok.mono (Nat.le_succ N)
    · exact (hok.mono (Nat.le_succ N)).setT t ⟨hx.1, fun _ => rfl, hx.2.2⟩
  rw [if_neg k1]
  by_cases k2 : o.k = 2
  · rw [if_pos k2]
    have hop : x.op = false := by
      cases hop : x.op with
      | false => rfl
      | true =>
        exfalso
        unfold refE at hr
        rw [if_neg k1, if_neg (by rw [hx.2.1 hop]; simp), if_pos ⟨.inl k2, hop⟩] at hr
        cases hr
    refine (hok.mono (Nat.le_succ N)).setT t ⟨hx.1, fun h => ?_, hx.2.2⟩
    have h : x.op = true := h
    rw [hop] at h; cases h
  rw [if_neg k2]
  by_cases k3 : o.k = 3
  · rw [if_pos k3]; exact hok.mono (Nat.le_succ N)
  rw [if_neg k3]
  by_cases k4 : o.k = 4
  · rw [if_pos k4]
    exact hok.setL (put_asc _ _ hok.asc) (hok.u64.put w1 w3) (Nat.le_trans (put_le _ _ _) (Nat.succ_le_succ hok.len))
  rw [if_neg k4]
  by_cases k5 : o.k = 5
  · rw [if_pos k5]
    show Md.Ok { s with l := addL o.key o.val s.l } (N + 1)
    unfold addL
    split
    · exact hok.mono (Nat.le_succ N)
    · exact hok.setL (put_asc _ _ hok.asc) (hok.u64.put w1 w3) (Nat.le_trans (put_le _ _ _) (Nat.succ_le_succ hok.len))
  rw [if_neg k5]
  by_cases k6 : o.k = 6
  · rw [if_pos k6]
    exact hok.setL (asc_sub hok.asc (del_sub _ _)) (hok.u64.sub (del_sub _ _)) (Nat.le_trans (del_sub _ _).length_le hl1)
  rw [if_neg k6]
  by_cases k7 : o.k = 7
  · rw [if_pos k7]
    show Md.Ok { s with l := casL o.key o.old o.val s.l } (N + 1)
    unfold casL
    split
    · exact hok.setL (put_asc _ _ hok.asc) (hok.u64.put w1 w3) (Nat.le_trans (put_le _ _ _) (Nat.succ_le_succ hok.len))
    · exact hok.mono (Nat.le_succ N)
  rw [if_neg k7]
  by_cases k8 : o.k = 8
  · rw [if_pos k8]
    have hb := hby k8
    refine hok.setL (mvL_asc _ _ _ (asc_sub hok.asc (outR_sub _ _ _))) (U64s.mv _ (hok.u64.sub (outR_sub _ _ _)) fun q hq => ?_) ?_
    · have h1 := List.mem_filter.1 hq
      have h2 := hok.u64 q h1.1
      have h3 : o.key ≤ q.1 ∧ q.1 ≤ o.hi := by simpa using h1.2
      exact ⟨by omega, h2.2⟩
    · have h1 := mvL_len o.by_ (inR o.key o.hi s.l) (outR o.key o.hi s.l)
      have h2 := outR_inR o.key o.hi s.l
      exact Nat.le_trans h1 (by omega)
  rw [if_neg k8]
  by_cases k9 : o.k = 9
  · rw [if_pos k9]
    exact hok.setL (asc_sub hok.asc (outR_sub _ _ _)) (hok.u64.sub (outR_sub _ _ _)) (Nat.le_trans (outR_sub _ _ _).length_le hl1)
  rw [if_neg k9]
  by_cases k10 : o.k = 10
  · rw [if_pos k10]; exact hok.mono (Nat.le_succ N)
  rw [if_neg k10]
  by_cases k11 : o.k = 11
  · rw [if_pos k11]
    have hse : x.se = true := by
      cases hse : x.se with
      | true => rfl
      | false =>
        exfalso
        unfold refE at hr
        rw [if_neg k1, if_pos hse] at hr
        cases hr
    exact (hok.mono (Nat.le_succ N)).setT t ⟨fun _ => ⟨w1.1, hab (by unfold uH; simp [k11]), w2.2⟩, fun _ => hse, fun _ => rfl⟩
  rw [if_neg k11]
  by_cases k12 : o.k = 12
  · rw [if_pos k12]
    cases hq : nextL x.lo x.hi s.l with
    | none => exact (hok.mono (Nat.le_succ N)).setT t hx.fin
    | some q => exact (hok.mono (Nat.le_succ N)).setT t (hx.after _ (hok.u64 q (nextL_mem hq).1).1.1)
  rw [if_neg k12]
  by_cases k13 : o.k = 13
  · rw [if_pos k13]; exact (hok.mono (Nat.le_succ N)).setT t (hx.from_ _ w1.1)
  rw [if_neg k13]
  by_cases k14 : o.k = 14
  · rw [if_pos k14]
    exact (hok.mono (Nat.le_succ N)).setT t ⟨fun h => (by cases h), fun h => (by cases h), fun h => (by cases h)⟩
  rw [if_neg k14]
  exact hok.mono (Nat.le_succ N)
theorem refM_zero {s : Md} {t : Int} {o : Ox} (hr : refM s t o = 0) : ∃ (n : Nat) (x : Th), t = n ∧ s.th[n]? = some x ∧ chkO o = 0 ∧ refE x o = 0 ∧ doM s t o = perfM s n x o := by
  have h0 : ¬ (t < 0 ∨ (s.th.length : Int) ≤ t) := fun h0 => by unfold refM at hr; rw [if_pos h0] at hr; cases hr
  have hc : chkO o = 0 := by
    rcases Decidable.em (chkO o = 0) with h1 | h1
    · exact h1
    · unfold refM at hr; rw [if_neg h0, if_pos h1] at hr; exact hr
  obtain ⟨t, rfl⟩ : ∃ n : Nat, t = n := ⟨t.toNat, by omega⟩
  obtain ⟨x, hx⟩ : ∃ x, s.th[t]? = some x := ⟨_, List.getElem?_eq_getElem (by omega)⟩
  refine ⟨t, x, rfl, hx, hc, ?_, ?_⟩
  · unfold refM at hr; rw [if_neg h0, if_neg (by simpa using hc), Int.toNat_natCast, hx] at hr; exact hr
  · unfold doM; rw [if_neg (by simpa using hr), Int.toNat_natCast, hx]
theorem doM_ok {s : Md} {N : Nat} (hok : s.Ok N) (t : Int) {o : Ox} (hw : o.Wf) : (doM s t o).2.Ok (N + 1) := by
  by_cases hr : refM s t o = 0
  · obtain ⟨n, x, rfl, hx, hc, h2, e⟩ := refM_zero hr
    rw [e]; exact perfM_ok hok hx hw hc h2
  · unfold doM; rw [if_pos hr]; exact hok.mono (Nat.le_succ N)
theorem perfM_len (s : Md) (t : Nat) (x : Th) (o : Ox) : (perfM s t x o).2.th.length = s.th.length ∧ (perfM s t x o).2.slots = s.slots := by
  have hs : ∀ y : Th, (s.th.set t y).length = s.th.length := fun y => List.length_set ..
  unfold perfM
  by_cases k1 : o.k = 1
  · rw [if_pos k1]
    show (openM s t x).th.length = s.th.length ∧ (openM s t x).slots = s.slots
    unfold openM
    split
    · exact ⟨rfl, rfl⟩
    · exact ⟨hs _, rfl⟩
  rw [if_neg k1]
  by_cases k2 : o.k = 2
  · rw [if_pos k2]; first | exact ⟨rfl, rfl⟩ | exact ⟨hs _, rfl⟩
  rw [if_neg k2]
  by_cases k3 : o.k = 3
  · rw [if_pos k3]; first | exact ⟨rfl, rfl⟩ | exact ⟨hs _, rfl⟩
  rw [if_neg k3]
  by_cases k4 : o.k = 4
  · rw [if_pos k4]; first | exact ⟨rfl, rfl⟩ | exact ⟨hs _, rfl⟩
  rw [if_neg k4]
  by_cases k5 : o.k = 5
  · rw [if_pos k5]; first | exact ⟨rfl, rfl⟩ | exact ⟨hs _, rfl⟩
  rw [if_neg k5]
  by_cases k6 : o.k = 6
  · rw [if_pos k6]; first | exact ⟨rfl, rfl⟩ | exact ⟨hs _, rfl⟩
  rw [if_neg k6]
  by_cases k7 : o.k = 7
  · rw [if_pos k7]; first | exact ⟨rfl, rfl⟩ | exact ⟨hs _, rfl⟩
  rw [if_neg k7]
  by_cases k8 : o.k = 8
  · rw [if_pos k8]; first | exact ⟨rfl, rfl⟩ | exact ⟨hs _, rfl⟩
  rw [if_neg k8]
  by_cases k9 : o.k = 9
  · rw [if_pos k9]; first | exact ⟨rfl, rfl⟩ | exact ⟨hs _, rfl⟩
  rw [if_neg k9]
  by_cases k10 : o.k = 10
  · rw [if_pos k10]; first | exact ⟨rfl, rfl⟩ | exact ⟨hs _, rfl⟩
  rw [if_neg k10]
  by_cases k11 : o.k = 11
  · rw [if_pos k11]; first | exact ⟨rfl, rfl⟩ | exact ⟨hs _, rfl⟩
  rw [if_neg k11]
  by_cases k12 : o.k = 12
  · rw [if_pos k12]
    cases nextL x.lo x.hi s.l with
    | none => exact ⟨hs _, rfl⟩
    | some q => exact ⟨hs _, rfl⟩
  rw [if_neg k12]
  by_cases k13 : o.k = 13
  · rw [if_pos k13]; first | exact ⟨rfl, rfl⟩ | exact ⟨hs _, rfl⟩
  rw [if_neg k13]
  by_cases k14 : o.k = 14
  · rw [if_pos k14]; first | exact ⟨rfl, rfl⟩ | exact ⟨hs _, rfl⟩
  rw [if_neg k14]
  exact ⟨rfl, rfl⟩
theorem doM_len (s : Md) (t : Int) (o : Ox) : (doM s t o).2.th.length = s.th.length ∧ (doM s t o).2.slots = s.slots := by
  by_cases hr : refM s t o = 0
  · obtain ⟨n, x, rfl, hx, hc, h2, e⟩ := refM_zero hr
    rw [e]; exact perfM_len _ _ _ _
  · unfold doM; rw [if_pos hr]; exact ⟨rfl, rfl⟩
theorem doM_at {s : Md} {t : Nat} {x : Th} (hx : s.th[t]? = some x) {o : Ox} (hc : chkO o = 0) : doM s t o = if refE x o ≠ 0 then (⟨refE x o, false, 0, 0, 0⟩, s) else perfM s t x o := by
  obtain ⟨p, _⟩ := List.getElem?_eq_some_iff.1 hx
  have e1 : refM s t o = refE x o := by
    unfold refM; rw [if_neg (by omega), if_neg (by simpa using hc), Int.toNat_natCast, hx]
  unfold doM
  rw [e1, Int.toNat_natCast, hx]
end Go.Proofs.Ytdjcndpnjoahmaa
