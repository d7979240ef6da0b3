import Derived.Test.YtjpgechcfkhoaaaFk0
namespace Go.Proofs.Ytjpgechcfkhoaaa
open Go.RowKit Go.Xt
/-- The condition on the first k calls of an order. -/
def okTo (o : List Nat) (l : List Cl) (k : Nat) : Prop := ∀ (j q i : Nat) (x y : Cl), j < k → o[j]? = some q → l[q]? = some y → l[i]? = some x → i ∈ o.take j ∨ bf x y = false
theorem okTo_all {o : List Nat} {l : List Cl} {k : Nat} (hk : k = o.length) : okTo o l k ↔ ordOk l o :=
  ⟨fun h j q i x y hq hy hx => h j q i x y (by rw [hk]; exact (List.getElem?_eq_some_iff.1 hq).1) hq hy hx, fun h j q i x y _ hq hy hx => h j q i x y hq hy hx⟩
theorem okTo_succ {o : List Nat} {l : List Cl} {k q : Nat} {y : Cl} (hq : o[k]? = some q) (hy : l[q]? = some y) : okTo o l (k + 1) ↔ okTo o l k ∧ ∀ (i : Nat) (x : Cl), l[i]? = some x → i ∈ o.take k ∨ bf x y = false := by
  constructor
  · intro h
    exact ⟨fun j q' i x y' hj hq' hy' hx => h j q' i x y' (by omega) hq' hy' hx, fun i x hx => h k q i x y (by omega) hq hy hx⟩
  · rintro ⟨h1, h2⟩ j q' i x y' hj hq' hy' hx
    rcases Nat.lt_succ_iff_lt_or_eq.1 hj with h | rfl
    · exact h1 j q' i x y' h hq' hy' hx
    · rw [hq] at hq'; injection hq' with hq'; subst hq'
      rw [hy] at hy'; injection hy' with hy'; subst hy'
      exact h2 i x hx
theorem Ord.snoc {n q : Nat} {o : List Nat} (h : Ord n o) (hq : q < n) (hm : q ∉ o) : Ord n (o ++ [q]) :=
  ⟨List.nodup_append.2 ⟨h.1, by simp, fun a ha b hb => by simp at hb; subst hb; exact fun e => hm (e ▸ ha)⟩, fun i hi => by
    rcases List.mem_append.1 hi with hi | hi
    · exact h.2 i hi
    · simp at hi; omega⟩
theorem own_set {W : World} {g o base : Nat} {u : Value} {v : Value} {l : List Int} (h : OwnI W base v l) (hg : g < base) : OwnI (W.setCell ⟨g, o, none⟩ u) base v l := ownsRow_setCell_below h hg u
set_option maxRecDepth 20000 in
set_option maxHeartbeats 8000000 in
theorem horders_any (A : Option Addr) (n c : Nat) (l : List Cl) (B : Option Addr) (m cm : Nat) (o : List Int) (w : World) (hnc : n ≤ c) (hc : c ≤ 9223372036854775807) (hl : Cs w A n l) (hw : ∀ y ∈ l, WfC y) (hmc : m ≤ cm) (hcm : cm ≤ 9223372036854775807) (ho : Is w B m o) (hwo : ∀ x ∈ o, (Lit.int .i64 x).wf = true) :
    Calls Try.prog 9 #[.slice A n c, .slice B m cm] w fun e w' => e = .returned (.bool true) ∧ Nw w w' := by
  obtain ⟨L, hL⟩ : ∃ L, l.take 40 = L := ⟨_, rfl⟩
  obtain ⟨n1, hn1⟩ : ∃ n1, L.length = n1 := ⟨_, rfl⟩
  have hn40 : n1 ≤ 40 := by rw [← hn1, ← hL]; exact few_len l
  have hwL : ∀ y ∈ L, WfC y := by rw [← hL]; exact few_wf hw
  have HL := Lib.hid hl
  have HO := Lib.hid ho
  have HWL := Lib.hid hwL
  have HN1 := Lib.hid hn1
  have HL1 := Lib.hid hL
  clear hl hw hwL hn1 hL ho hwo
  go_enter Try.func9, Try.ntmps9
  go_wp2_with fail
  refine (few_cs _ hnc hc HL1.out HN1.out HL.out).mono ?_
  rintro e W2 ⟨A1, c1, rfl, h1, hn2⟩
  have HN2 := Lib.hid hn2
  have HC2 := Lib.hid h1.1
  have hc1 := h1.2.1
  have hm1 := h1.2.2.1
  have HO2 := Lib.hid (HO.out.nw hn2)
  obtain ⟨W3, hmk, hs3, hn3⟩ := make_bools W2 n1 (by omega)
  have hlt3 := hs3.lt
  generalize hbs : W2.heap.size = bs at hmk hs3 hlt3
  have HS3 := Lib.hid hs3
  have HN3 := Lib.hid hn3
  have HBS := Lib.hid hbs
  obtain ⟨sz, hsz⟩ : ∃ sz, sz = W3.heap.size := ⟨_, rfl⟩
  have HSZ := Lib.hid hsz
  have hbsz : bs < sz := by omega
  clear h1 hn2 hs3 hn3 hbs hsz hlt3 HL HO
  go_wp2_with fail
  go_loopw [6, 8] (fun a b wr => ∃ (k : Nat) (os : List Nat) (V d : World), k ≤ m ∧ k ≤ 40 ∧ b = .int .i64 k ∧ wr = V.ext none d ∧ Hid (V.heap.size = sz ∧ Seen V bs n1 (fun i => decide (i ∈ os)) ∧ Nw W2 V ∧ OwnI (V.ext none d) sz a (natI os) ∧ Ord n1 os ∧ os.length ≤ k)) (fun _ b _ => 40 - (intOf b).toNat)
  case atStart => exact ⟨0, [], W3, W3, by omega, by omega, rfl, (ext_of (gref _ _)).symm, HSZ.out.symm, HS3.out.congr (fun i _ => by simp), HN3.out, World.ownsRow_nil _ _ _ _, ⟨by simp, by simp⟩, by simp⟩
  case round =>
    obtain ⟨k, os, V, d, hk, hk40, rfl, rfl, hI⟩ := hrel
    have hbV : bs < V.heap.size := by have := hI.out.1; omega
    haveI : In bs V := ⟨hbV⟩
    by_cases hlt : k < m
    · have hkm : (k : Int) < (m : Int) := by omega
      by_cases hlt2 : k < 40
      · have hk40' : (k : Int) < 40 := by omega
        have dk : decide (k < 40) = true := by simpa using hlt2
        obtain ⟨bo, oo, z, rfl, hbo, hz, hcz0⟩ := HO2.out.get hlt
        haveI : In bo W2 := ⟨hbo⟩
        have hcz : V.cell? ⟨bo, oo + k, none⟩ = some (.int .i64 z) := by
          obtain ⟨d', rfl⟩ := hI.out.2.2.1
          rw [cell_ext]; exact hcz0
        haveI : In bo V := ⟨Nat.lt_of_lt_of_le hbo hI.out.2.2.1.grown.size⟩
        have hbo2 : bo ≠ bs := by have := HBS.out; omega
        clear hz
        by_cases h0 : 0 ≤ z
        · have d0 : decide (0 ≤ z) = true := by simpa using h0
          obtain ⟨q, rfl⟩ : ∃ q : Nat, z = q := ⟨z.toNat, by omega⟩
          by_cases hqn : q < n1
          · have hqn' : (q : Int) < (n1 : Int) := by omega
            have d1 : decide ((q : Int) < (n1 : Int)) = true := by simpa using hqn'
            have d1' : decide (q < n1) = true := by simpa using hqn
            by_cases hm : q ∈ os
            · have hsq : V.cell? ⟨bs, q, none⟩ = some (.bool true) := by rw [hI.out.2.1.cell q hqn]; simp [hm]
              have hI2 := hI.out
              have HI2 := Lib.hid (⟨hI2.1, hI2.2.1, hI2.2.2.1, hI2.2.2.2.1, hI2.2.2.2.2.1, by have := hI2.2.2.2.2.2; omega⟩ : V.heap.size = sz ∧ Seen V bs n1 (fun i => decide (i ∈ os)) ∧ Nw W2 V ∧ OwnI (V.ext none d) sz u6 (natI os) ∧ Ord n1 os ∧ os.length ≤ k + 1)
              clear hI hI2 hm h0
              go_wp2
              refine ⟨⟨k + 1, os, V, d, by omega, by omega, by go_num, rfl, HI2.out⟩, by first | (simp [intOf]; omega) | omega⟩
            · have hsq : V.cell? ⟨bs, q, none⟩ = some (.bool false) := by rw [hI.out.2.1.cell q hqn]; simp [hm]
              have hfq : V.frozen? ⟨bs, q, none⟩ = false := hI.out.2.1.fz q hqn
              go_upto_region 9 with (fail)
              obtain ⟨i1, i2, i3, i4, i5, i6⟩ := hI.out
              have hown' := own_set (o := q) (u := .bool true) i4 hbsz
              rw [setCell_ext] at hown'
              have hs2 := (i2.set hqn).congr (Q := fun i => decide (i ∈ os ++ [q])) (fun i _ => by by_cases e : i = q <;> simp [e])
              have hn2' : Nw W2 (V.setCell ⟨bs, q, none⟩ (.bool true)) := Nw.setCell i3 (p := ⟨bs, q, none⟩) (by show W2.heap.size ≤ bs; have := HBS.out; omega) _
              have hz2 : (V.setCell ⟨bs, q, none⟩ (.bool true)).heap.size = sz := by simpa using i1
              have hcz2 : (V.setCell ⟨bs, q, none⟩ (.bool true)).cell? ⟨bo, oo + k, none⟩ = some (.int .i64 q) := by rw [World.cell?_setCell_other (h := by intro e; injection e with e1 e2; exact hbo2 e1.symm)]; exact hcz
              generalize dset V none d ⟨bs, q, none⟩ (.bool true) = d2 at *
              generalize V.setCell ⟨bs, q, none⟩ (.bool true) = V2 at *
              haveI : In bo V2 := ⟨by have := hbo; have := hn2'.grown.size; omega⟩
              rw [← hz2] at hown'
              have HS2 := Lib.hid hs2
              have HN2' := Lib.hid hn2'
              have HZ2 := Lib.hid hz2
              have HOR := Lib.hid (i5.snoc hqn hm)
              have hlo : (natI os).length ≤ k := by rw [natI_len]; exact i6
              have hlo2 : (os ++ [q]).length ≤ k + 1 := by simp; omega
              clear hI i1 i2 i3 i4 i5 i6 hs2 hn2' hz2 hsq hfq hcz
              go_wp2_with (at_builtin; refine wpList_app1 rfl _ _ 30 rfl 3 (.int .i64 0) 1 8 Try.underlying30 intInfo rfl (by decide) (V2) _ (by repeat (first | exact Xt.Nw.refl _ | refine Xt.Nw.drew ?_ | refine Xt.Nw.drewN ?_ _ | refine Xt.Nw.alloc ?_ _ | refine Xt.Nw.joined ?_ | refine Xt.Nw.drewd ?_ | refine Xt.Nw.drewdN ?_ | refine Xt.Nw.ext ?_ | refine Xt.Nw.ext_some ?_ (by assumption) | refine Xt.Nw.setCell ?_ (by simp [go_sem] <;> omega) _)) _ _ _ rfl (by first | assumption | exact own_nw (by assumption) (by repeat (first | exact Xt.Nw.refl _ | refine Xt.Nw.drew ?_ | refine Xt.Nw.drewN ?_ _ | refine Xt.Nw.alloc ?_ _ | refine Xt.Nw.joined ?_ | refine Xt.Nw.drewd ?_ | refine Xt.Nw.drewdN ?_ | refine Xt.Nw.ext ?_ | refine Xt.Nw.ext_some ?_ (by assumption) | refine Xt.Nw.setCell ?_ (by simp [go_sem] <;> omega) _))) _ 1 1 _ _ rfl (by first | rfl | simp) rfl (by intro u hu; simp at hu; (repeat' rcases hu with rfl | hu) <;> first | rfl | (subst hu; rfl)) (by unfold maxLen; omega) (by omega) ?_; intro vA dA hownA)
              refine ⟨⟨k + 1, os ++ [q], V2, dA, by omega, by omega, by go_num, rfl, HZ2.out, HS2.out, HN2'.out, ?_, HOR.out, hlo2⟩, by first | (simp [intOf]; omega) | omega⟩
              rw [← HZ2.out]
              exact OwnI.cast hownA (by simp [natI]) (by rw [natI_app]; simp [ints, natI])
          · have hqn' : ¬ (q : Int) < (n1 : Int) := by omega
            have d1 : decide ((q : Int) < (n1 : Int)) = false := by simpa using hqn'
            have d1' : decide (q < n1) = false := by simpa using hqn
            have hI2 := hI.out
            have HI2 := Lib.hid (⟨hI2.1, hI2.2.1, hI2.2.2.1, hI2.2.2.2.1, hI2.2.2.2.2.1, by have := hI2.2.2.2.2.2; omega⟩ : V.heap.size = sz ∧ Seen V bs n1 (fun i => decide (i ∈ os)) ∧ Nw W2 V ∧ OwnI (V.ext none d) sz u6 (natI os) ∧ Ord n1 os ∧ os.length ≤ k + 1)
            clear hI hI2 h0
            go_wp2
            refine ⟨⟨k + 1, os, V, d, by omega, by omega, by go_num, rfl, HI2.out⟩, by first | (simp [intOf]; omega) | omega⟩
        · have d0 : decide (0 ≤ z) = false := by simpa using h0
          have hI2 := hI.out
          have HI2 := Lib.hid (⟨hI2.1, hI2.2.1, hI2.2.2.1, hI2.2.2.2.1, hI2.2.2.2.2.1, by have := hI2.2.2.2.2.2; omega⟩ : V.heap.size = sz ∧ Seen V bs n1 (fun i => decide (i ∈ os)) ∧ Nw W2 V ∧ OwnI (V.ext none d) sz u6 (natI os) ∧ Ord n1 os ∧ os.length ≤ k + 1)
          clear hI hI2 h0
          go_wp2
          refine ⟨⟨k + 1, os, V, d, by omega, by omega, by go_num, rfl, HI2.out⟩, by first | (simp [intOf]; omega) | omega⟩
      · have hk40' : ¬ (k : Int) < 40 := by omega
        have dk : decide (k < 40) = false := by simpa using hlt2
        obtain ⟨i1, i2, i3, i4, i5, i6⟩ := hI.out
        have hn4 : Nw W2 (V.ext none d) := i3.trans ⟨_, rfl⟩
        clear hI i1 i2 i3
        obtain ⟨no, hno⟩ : ∃ no, os.length = no := ⟨_, rfl⟩
        have hno40 : no ≤ 40 := by omega
        obtain ⟨Ao, co, rfl, hio⟩ := i4.new (n := no) (by rw [natI_len, hno])
        generalize V.ext none d = W4 at *
        have HN4 := Lib.hid hn4
        have HIO := Lib.hid hio
        have HORD := Lib.hid i5
        have HNO := Lib.hid hno
        have HWO := Lib.hid (natI_wf i5.2 (show n1 ≤ 1000 by omega))
        clear hn4 hio i4 i5 i6 hno
        go_wp2_with fail
        refine (agrees_any Ao no co (natI os) A1 n1 c1 L _ (by omega) (HIO.out.nw ((by repeat (first | exact Xt.Nw.refl _ | refine Xt.Nw.drew ?_ | refine Xt.Nw.drewN ?_ _ | refine Xt.Nw.alloc ?_ _ | refine Xt.Nw.joined ?_ | refine Xt.Nw.drewd ?_ | refine Xt.Nw.drewdN ?_ | refine Xt.Nw.ext ?_ | refine Xt.Nw.ext_some ?_ (by assumption) | refine Xt.Nw.setCell ?_ (by simp [go_sem] <;> omega) _)))) HWO.out (by omega) hc1 hm1 (HC2.out.nw (HN4.out.trans ((by repeat (first | exact Xt.Nw.refl _ | refine Xt.Nw.drew ?_ | refine Xt.Nw.drewN ?_ _ | refine Xt.Nw.alloc ?_ _ | refine Xt.Nw.joined ?_ | refine Xt.Nw.drewd ?_ | refine Xt.Nw.drewdN ?_ | refine Xt.Nw.ext ?_ | refine Xt.Nw.ext_some ?_ (by assumption) | refine Xt.Nw.setCell ?_ (by simp [go_sem] <;> omega) _))))) HWL.out).mono ?_
        rintro e w' ⟨rfl, dW, rfl⟩
        go_wp2_with fail
        refine (check_any A1 n1 c1 L _ (by omega) hc1 hm1 (HC2.out.nw (HN4.out.trans ((by repeat (first | exact Xt.Nw.refl _ | refine Xt.Nw.drew ?_ | refine Xt.Nw.drewN ?_ _ | refine Xt.Nw.alloc ?_ _ | refine Xt.Nw.joined ?_ | refine Xt.Nw.drewd ?_ | refine Xt.Nw.drewdN ?_ | refine Xt.Nw.ext ?_ | refine Xt.Nw.ext_some ?_ (by assumption) | refine Xt.Nw.setCell ?_ (by simp [go_sem] <;> omega) _))))) HWL.out).mono ?_
        rintro e W6 ⟨rfl, hn6⟩
        have hn46 : Nw W4 W6 := Nw.trans ((by repeat (first | exact Xt.Nw.refl _ | refine Xt.Nw.drew ?_ | refine Xt.Nw.drewN ?_ _ | refine Xt.Nw.alloc ?_ _ | refine Xt.Nw.joined ?_ | refine Xt.Nw.drewd ?_ | refine Xt.Nw.drewdN ?_ | refine Xt.Nw.ext ?_ | refine Xt.Nw.ext_some ?_ (by assumption) | refine Xt.Nw.setCell ?_ (by simp [go_sem] <;> omega) _))) hn6
        have HN6 := Lib.hid (HN2.out.trans (HN4.out.trans hn46))
        have HC6 := Lib.hid (HC2.out.nw (HN4.out.trans hn46))
        have HI6 := Lib.hid (HIO.out.nw hn46)
        clear hn6 hn46
        rcases chk_cases L with ⟨hb, hv⟩ | ⟨i, hb, hv⟩
        · rw [hv, show agrE (natI os) L = 0 from Ord.agrE hb (by rw [HN1.out]; exact HORD.out)]
          have hag := Ord.agrB hb (o := os) (by rw [HN1.out]; exact HORD.out)
          obtain ⟨ab, hab⟩ : ∃ ab, ab = agrB (natI os) L := ⟨_, rfl⟩
          rw [← hab] at hag ⊢
          have HAG := Lib.hid hag
          obtain ⟨W7, hmk7, hs7, hn7⟩ := make_bools W6 n1 (by omega)
          have hlt7 := hs7.lt
          generalize hbb : W6.heap.size = bb at hmk7 hs7 hlt7
          have HS7 := Lib.hid hs7
          have HN7 := Lib.hid hn7
          have HBB := Lib.hid hbb
          clear hb hv hag hab hs7 hn7 hbb hlt7
          go_wp2_with fail
          go_loopw [13, 15] (fun a b wr => ∃ (k : Nat) (wv : Bool), k ≤ no ∧ a = .bool wv ∧ b = .int .i64 k ∧ Hid (wv = true ↔ okTo os L k) ∧ Hid (Seen wr bb n1 (fun i => decide (i ∈ os.take k))) ∧ Hid (Nw W6 wr)) (fun _ b _ => no - (intOf b).toNat)
          case atStart => exact ⟨0, true, by omega, rfl, rfl, ⟨fun _ j q i x y h => absurd h (by omega), fun _ => rfl⟩, HS7.out.congr (fun i _ => by simp), HN7.out⟩
          case round =>
            obtain ⟨k, wv, hk, rfl, rfl, hwv, hsn, hnw⟩ := hrel
            by_cases hlt : k < no
            · have HIr := Lib.hid (HI6.out.nw hnw.out)
              have HCr := Lib.hid (HC6.out.nw hnw.out)
              obtain ⟨bx, ox, z, rfl, hbx, hz, hcz⟩ := HIr.out.get hlt
              obtain ⟨q, rfl, hq⟩ := natI_get hz
              have hqn : q < n1 := HORD.out.2 q (List.mem_of_getElem? hq)
              obtain ⟨b1, o1, y, rfl, hb1, hy, hcy⟩ := HCr.out.get hqn
              haveI : In bx wr := ⟨hbx⟩
              haveI : In b1 wr := ⟨hb1⟩
              haveI : In bb wr := ⟨hsn.out.lt⟩
              haveI : CallAt wr b1 (o1 + q * 18) y := ⟨hcy, hb1⟩
              have HQ := Lib.hid hq
              have HY := Lib.hid hy
              have hkn : (k : Int) < (no : Int) := by omega
              have hqn2 : (q : Int) < (n1 : Int) := by omega
              have HNW := Lib.hid hnw.out
              clear hz hq hy hcy hnw
              go_wp2_with fail
              go_loopw [13, 16] (fun a b wq => ∃ (i : Nat) (wv' : Bool), i ≤ n1 ∧ a = .bool wv' ∧ b = .int .i64 i ∧ Hid (wv' = true ↔ (okTo os L k ∧ ∀ (i' : Nat) (x : Cl), i' < i → L[i']? = some x → i' ∈ os.take k ∨ bf x y = false)) ∧ Nw wr wq) (fun _ b _ => n1 - (intOf b).toNat)
              case atStart => exact ⟨0, wv, by omega, rfl, rfl, ⟨fun h => ⟨hwv.out.1 h, fun i' x h => absurd h (by omega)⟩, fun h => hwv.out.2 h.1⟩, Nw.refl _⟩
              case round =>
                obtain ⟨i, wv', hi, rfl, rfl, hW, d, rfl⟩ := hrel
                by_cases hli : i < n1
                · obtain ⟨b', o', x, e1, _, hx, hcx⟩ := HCr.out.get hli
                  obtain ⟨rfl, rfl⟩ : b1 = b' ∧ o1 = o' := by simpa using e1
                  haveI : CallAt wr b1 (o1 + i * 18) x := ⟨hcx, hb1⟩
                  have hin : (i : Int) < (n1 : Int) := by omega
                  have hstep : ∀ v2 : Bool, (v2 = true ↔ (wv' = true ∧ (i ∈ os.take k ∨ bf x y = false))) → Hid (v2 = true ↔ (okTo os L k ∧ ∀ (i' : Nat) (x : Cl), i' < i + 1 → L[i']? = some x → i' ∈ os.take k ∨ bf x y = false)) := fun v2 h2 => by
                    show _ ↔ _
                    rw [h2, hW.out]
                    constructor
                    · rintro ⟨⟨a1, a2⟩, a3⟩
                      refine ⟨a1, fun i' x' hi' hx' => ?_⟩
                      rcases Nat.lt_succ_iff_lt_or_eq.1 hi' with h | rfl
                      · exact a2 i' x' h hx'
                      · rw [hx] at hx'; injection hx' with hx'; subst hx'; exact a3
                    · rintro ⟨a1, a2⟩
                      exact ⟨⟨a1, fun i' x' hi' hx' => a2 i' x' (by omega) hx'⟩, a2 i x (by omega) hx⟩
                  have HST := Lib.hid hstep
                  have hbc := Lib.hid (fun W => before_any x y W)
                  clear hstep hW hx hcx e1
                  cases wv' with
                  | false =>
                    go_upto_region 24 with (fail)
                    (refine wp_region_nw (by kernel_rfl) (by kernel_rfl) ?_; (repeat (go_big_quiet_step (fail))); refine wpQuiet_nil ?_; intro _ hreg; obtain ⟨dW, rfl⟩ : Nw _ _ := hreg)
                    go_wp2
                    refine ⟨⟨i + 1, false, by omega, rfl, by go_num, HST.out false (by simp), (by repeat (first | exact Xt.Nw.refl _ | refine Xt.Nw.drew ?_ | refine Xt.Nw.drewN ?_ _ | refine Xt.Nw.alloc ?_ _ | refine Xt.Nw.joined ?_ | refine Xt.Nw.drewd ?_ | refine Xt.Nw.drewdN ?_ | refine Xt.Nw.ext ?_ | refine Xt.Nw.ext_some ?_ (by assumption) | refine Xt.Nw.setCell ?_ (by simp [go_sem] <;> omega) _))⟩, by first | (simp [intOf]; omega) | omega⟩
                  | true =>
                    by_cases hm : i ∈ os.take k
                    · have hsq : wr.cell? ⟨bb, i, none⟩ = some (.bool true) := by rw [hsn.out.cell i hli]; simp [hm]
                      have HM := Lib.hid hm
                      clear hm
                      go_upto_region 24 with (fail)
                      (refine wp_region_nw (by kernel_rfl) (by kernel_rfl) ?_; (repeat (go_big_quiet_step (fail))); refine wpQuiet_nil ?_; intro _ hreg; obtain ⟨dW, rfl⟩ : Nw _ _ := hreg)
                      go_wp2
                      refine ⟨⟨i + 1, true, by omega, rfl, by go_num, HST.out true (by simp [HM.out]), (by repeat (first | exact Xt.Nw.refl _ | refine Xt.Nw.drew ?_ | refine Xt.Nw.drewN ?_ _ | refine Xt.Nw.alloc ?_ _ | refine Xt.Nw.joined ?_ | refine Xt.Nw.drewd ?_ | refine Xt.Nw.drewdN ?_ | refine Xt.Nw.ext ?_ | refine Xt.Nw.ext_some ?_ (by assumption) | refine Xt.Nw.setCell ?_ (by simp [go_sem] <;> omega) _))⟩, by first | (simp [intOf]; omega) | omega⟩
                    · have hsq : wr.cell? ⟨bb, i, none⟩ = some (.bool false) := by rw [hsn.out.cell i hli]; simp [hm]
                      have HM := Lib.hid hm
                      clear hm
                      cases hb0 : bf x y with
                      | false =>
                        rw [hb0] at hbc
                        have HB0 := Lib.hid hb0
                        clear hb0
                        go_upto_region 24 with (fail)
                        (refine wp_region_nw (by kernel_rfl) (by kernel_rfl) ?_; (repeat (go_big_quiet_step ((go_at_call 30; exact quiet_of (hbc.out _))))); refine wpQuiet_nil ?_; intro _ hreg; obtain ⟨dW, rfl⟩ : Nw _ _ := hreg)
                        go_wp2
                        refine ⟨⟨i + 1, true, by omega, rfl, by go_num, HST.out true (by simp [HB0.out]), (by repeat (first | exact Xt.Nw.refl _ | refine Xt.Nw.drew ?_ | refine Xt.Nw.drewN ?_ _ | refine Xt.Nw.alloc ?_ _ | refine Xt.Nw.joined ?_ | refine Xt.Nw.drewd ?_ | refine Xt.Nw.drewdN ?_ | refine Xt.Nw.ext ?_ | refine Xt.Nw.ext_some ?_ (by assumption) | refine Xt.Nw.setCell ?_ (by simp [go_sem] <;> omega) _))⟩, by first | (simp [intOf]; omega) | omega⟩
                      | true =>
                        rw [hb0] at hbc
                        have HB0 := Lib.hid hb0
                        clear hb0
                        go_upto_region 24 with (fail)
                        (refine wp_region_nw (by kernel_rfl) (by kernel_rfl) ?_; (repeat (go_big_quiet_step ((go_at_call 30; exact quiet_of (hbc.out _))))); refine wpQuiet_nil ?_; intro _ hreg; obtain ⟨dW, rfl⟩ : Nw _ _ := hreg)
                        go_wp2
                        refine ⟨⟨i + 1, false, by omega, rfl, by go_num, HST.out false (by simp [HB0.out, HM.out]), (by repeat (first | exact Xt.Nw.refl _ | refine Xt.Nw.drew ?_ | refine Xt.Nw.drewN ?_ _ | refine Xt.Nw.alloc ?_ _ | refine Xt.Nw.joined ?_ | refine Xt.Nw.drewd ?_ | refine Xt.Nw.drewdN ?_ | refine Xt.Nw.ext ?_ | refine Xt.Nw.ext_some ?_ (by assumption) | refine Xt.Nw.setCell ?_ (by simp [go_sem] <;> omega) _))⟩, by first | (simp [intOf]; omega) | omega⟩
                · have hli2 : ¬ (i : Int) < (n1 : Int) := by omega
                  have hin : n1 ≤ i := by omega
                  have hfin : Hid (wv' = true ↔ okTo os L (k + 1)) := by
                    show _ ↔ _
                    rw [okTo_succ HQ.out HY.out, hW.out]
                    constructor
                    · rintro ⟨a1, a2⟩
                      exact ⟨a1, fun i' x hx => a2 i' x (by have := (List.getElem?_eq_some_iff.1 hx).1; have := HN1.out; omega) hx⟩
                    · rintro ⟨a1, a2⟩
                      exact ⟨a1, fun i' x _ hx => a2 i' x hx⟩
                  have hn8 : Nw wr (wr.ext none d) := ⟨_, rfl⟩
                  have hcz8 : (wr.ext none d).cell? ⟨bx, ox + k, none⟩ = some (.int .i64 q) := by rw [cell_ext]; exact hcz
                  have hsn8 := hsn.out.nw hn8
                  have hc8 := hsn8.cell q hqn
                  have hf8 := hsn8.fz q hqn
                  have HS8 := Lib.hid hsn8
                  have HW8 := Lib.hid (HNW.out.trans hn8)
                  clear hn8 hsn8 hW hin
                  generalize wr.ext none d = W8 at *
                  go_wp2
                  refine ⟨⟨k + 1, wv', by omega, rfl, by go_num, hfin, (HS8.out.set hqn).congr (fun i _ => take_seen HQ.out i), Nw.setCell HW8.out (p := ⟨bb, q, none⟩) (by show W6.heap.size ≤ bb; have := HBB.out; omega) _⟩, by first | (simp [intOf]; omega) | omega⟩
            · have hkn : ¬ (k : Int) < (no : Int) := by omega
              have hEq : (ab == wv) = true := by
                have h1 := hwv.out
                rw [okTo_all (by have := HNO.out; omega)] at h1
                rw [beq_iff_eq, Bool.eq_iff_iff, HAG.out, h1]
              have HN8 := Lib.hid (HN6.out.trans hnw.out)
              clear hwv hsn hnw
              go_wp2_with fail
              refine (awake_any _).mono ?_
              rintro e w' ⟨rfl, dW, rfl⟩
              go_wp2
              go_ret
              exact ⟨rfl, HN8.out.trans ((by repeat (first | exact Xt.Nw.refl _ | refine Xt.Nw.drew ?_ | refine Xt.Nw.drewN ?_ _ | refine Xt.Nw.alloc ?_ _ | refine Xt.Nw.joined ?_ | refine Xt.Nw.drewd ?_ | refine Xt.Nw.drewdN ?_ | refine Xt.Nw.ext ?_ | refine Xt.Nw.ext_some ?_ (by assumption) | refine Xt.Nw.setCell ?_ (by simp [go_sem] <;> omega) _)))⟩
        · have hE : agrE (natI os) L = 15 := by rw [agrE, if_neg (by rw [hb]; simp)]
          rw [hv, hE, agrB_false (show agrE (natI os) L ≠ 0 by rw [hE]; decide)]
          clear hb hv hE
          go_wp2_with fail
          refine (awake_any _).mono ?_
          rintro e w' ⟨rfl, dW, rfl⟩
          go_wp2
          go_ret
          exact ⟨rfl, HN6.out.trans ((by repeat (first | exact Xt.Nw.refl _ | refine Xt.Nw.drew ?_ | refine Xt.Nw.drewN ?_ _ | refine Xt.Nw.alloc ?_ _ | refine Xt.Nw.joined ?_ | refine Xt.Nw.drewd ?_ | refine Xt.Nw.drewdN ?_ | refine Xt.Nw.ext ?_ | refine Xt.Nw.ext_some ?_ (by assumption) | refine Xt.Nw.setCell ?_ (by simp [go_sem] <;> omega) _)))⟩
    · have hkm : ¬ (k : Int) < (m : Int) := by omega
      obtain ⟨i1, i2, i3, i4, i5, i6⟩ := hI.out
      have hn4 : Nw W2 (V.ext none d) := i3.trans ⟨_, rfl⟩
      clear hI i1 i2 i3
      obtain ⟨no, hno⟩ : ∃ no, os.length = no := ⟨_, rfl⟩
      have hno40 : no ≤ 40 := by omega
      obtain ⟨Ao, co, rfl, hio⟩ := i4.new (n := no) (by rw [natI_len, hno])
      generalize V.ext none d = W4 at *
      have HN4 := Lib.hid hn4
      have HIO := Lib.hid hio
      have HORD := Lib.hid i5
      have HNO := Lib.hid hno
      have HWO := Lib.hid (natI_wf i5.2 (show n1 ≤ 1000 by omega))
      clear hn4 hio i4 i5 i6 hno
      go_wp2_with fail
      refine (agrees_any Ao no co (natI os) A1 n1 c1 L _ (by omega) (HIO.out.nw ((by repeat (first | exact Xt.Nw.refl _ | refine Xt.Nw.drew ?_ | refine Xt.Nw.drewN ?_ _ | refine Xt.Nw.alloc ?_ _ | refine Xt.Nw.joined ?_ | refine Xt.Nw.drewd ?_ | refine Xt.Nw.drewdN ?_ | refine Xt.Nw.ext ?_ | refine Xt.Nw.ext_some ?_ (by assumption) | refine Xt.Nw.setCell ?_ (by simp [go_sem] <;> omega) _)))) HWO.out (by omega) hc1 hm1 (HC2.out.nw (HN4.out.trans ((by repeat (first | exact Xt.Nw.refl _ | refine Xt.Nw.drew ?_ | refine Xt.Nw.drewN ?_ _ | refine Xt.Nw.alloc ?_ _ | refine Xt.Nw.joined ?_ | refine Xt.Nw.drewd ?_ | refine Xt.Nw.drewdN ?_ | refine Xt.Nw.ext ?_ | refine Xt.Nw.ext_some ?_ (by assumption) | refine Xt.Nw.setCell ?_ (by simp [go_sem] <;> omega) _))))) HWL.out).mono ?_
      rintro e w' ⟨rfl, dW, rfl⟩
      go_wp2_with fail
      refine (check_any A1 n1 c1 L _ (by omega) hc1 hm1 (HC2.out.nw (HN4.out.trans ((by repeat (first | exact Xt.Nw.refl _ | refine Xt.Nw.drew ?_ | refine Xt.Nw.drewN ?_ _ | refine Xt.Nw.alloc ?_ _ | refine Xt.Nw.joined ?_ | refine Xt.Nw.drewd ?_ | refine Xt.Nw.drewdN ?_ | refine Xt.Nw.ext ?_ | refine Xt.Nw.ext_some ?_ (by assumption) | refine Xt.Nw.setCell ?_ (by simp [go_sem] <;> omega) _))))) HWL.out).mono ?_
      rintro e W6 ⟨rfl, hn6⟩
      have hn46 : Nw W4 W6 := Nw.trans ((by repeat (first | exact Xt.Nw.refl _ | refine Xt.Nw.drew ?_ | refine Xt.Nw.drewN ?_ _ | refine Xt.Nw.alloc ?_ _ | refine Xt.Nw.joined ?_ | refine Xt.Nw.drewd ?_ | refine Xt.Nw.drewdN ?_ | refine Xt.Nw.ext ?_ | refine Xt.Nw.ext_some ?_ (by assumption) | refine Xt.Nw.setCell ?_ (by simp [go_sem] <;> omega) _))) hn6
      have HN6 := Lib.hid (HN2.out.trans (HN4.out.trans hn46))
      have HC6 := Lib.hid (HC2.out.nw (HN4.out.trans hn46))
      have HI6 := Lib.hid (HIO.out.nw hn46)
      clear hn6 hn46
      rcases chk_cases L with ⟨hb, hv⟩ | ⟨i, hb, hv⟩
      · rw [hv, show agrE (natI os) L = 0 from Ord.agrE hb (by rw [HN1.out]; exact HORD.out)]
        have hag := Ord.agrB hb (o := os) (by rw [HN1.out]; exact HORD.out)
        obtain ⟨ab, hab⟩ : ∃ ab, ab = agrB (natI os) L := ⟨_, rfl⟩
        rw [← hab] at hag ⊢
        have HAG := Lib.hid hag
        obtain ⟨W7, hmk7, hs7, hn7⟩ := make_bools W6 n1 (by omega)
        have hlt7 := hs7.lt
        generalize hbb : W6.heap.size = bb at hmk7 hs7 hlt7
        have HS7 := Lib.hid hs7
        have HN7 := Lib.hid hn7
        have HBB := Lib.hid hbb
        clear hb hv hag hab hs7 hn7 hbb hlt7
        go_wp2_with fail
        go_loopw [13, 15] (fun a b wr => ∃ (k : Nat) (wv : Bool), k ≤ no ∧ a = .bool wv ∧ b = .int .i64 k ∧ Hid (wv = true ↔ okTo os L k) ∧ Hid (Seen wr bb n1 (fun i => decide (i ∈ os.take k))) ∧ Hid (Nw W6 wr)) (fun _ b _ => no - (intOf b).toNat)
        case atStart => exact ⟨0, true, by omega, rfl, rfl, ⟨fun _ j q i x y h => absurd h (by omega), fun _ => rfl⟩, HS7.out.congr (fun i _ => by simp), HN7.out⟩
        case round =>
          obtain ⟨k, wv, hk, rfl, rfl, hwv, hsn, hnw⟩ := hrel
          by_cases hlt : k < no
          · have HIr := Lib.hid (HI6.out.nw hnw.out)
            have HCr := Lib.hid (HC6.out.nw hnw.out)
            obtain ⟨bx, ox, z, rfl, hbx, hz, hcz⟩ := HIr.out.get hlt
            obtain ⟨q, rfl, hq⟩ := natI_get hz
            have hqn : q < n1 := HORD.out.2 q (List.mem_of_getElem? hq)
            obtain ⟨b1, o1, y, rfl, hb1, hy, hcy⟩ := HCr.out.get hqn
            haveI : In bx wr := ⟨hbx⟩
            haveI : In b1 wr := ⟨hb1⟩
            haveI : In bb wr := ⟨hsn.out.lt⟩
            haveI : CallAt wr b1 (o1 + q * 18) y := ⟨hcy, hb1⟩
            have HQ := Lib.hid hq
            have HY := Lib.hid hy
            have hkn : (k : Int) < (no : Int) := by omega
            have hqn2 : (q : Int) < (n1 : Int) := by omega
            have HNW := Lib.hid hnw.out
            clear hz hq hy hcy hnw
            go_wp2_with fail
            go_loopw [13, 16] (fun a b wq => ∃ (i : Nat) (wv' : Bool), i ≤ n1 ∧ a = .bool wv' ∧ b = .int .i64 i ∧ Hid (wv' = true ↔ (okTo os L k ∧ ∀ (i' : Nat) (x : Cl), i' < i → L[i']? = some x → i' ∈ os.take k ∨ bf x y = false)) ∧ Nw wr wq) (fun _ b _ => n1 - (intOf b).toNat)
            case atStart => exact ⟨0, wv, by omega, rfl, rfl, ⟨fun h => ⟨hwv.out.1 h, fun i' x h => absurd h (by omega)⟩, fun h => hwv.out.2 h.1⟩, Nw.refl _⟩
            case round =>
              obtain ⟨i, wv', hi, rfl, rfl, hW, d, rfl⟩ := hrel
              by_cases hli : i < n1
              · obtain ⟨b', o', x, e1, _, hx, hcx⟩ := HCr.out.get hli
                obtain ⟨rfl, rfl⟩ : b1 = b' ∧ o1 = o' := by simpa using e1
                haveI : CallAt wr b1 (o1 + i * 18) x := ⟨hcx, hb1⟩
                have hin : (i : Int) < (n1 : Int) := by omega
                have hstep : ∀ v2 : Bool, (v2 = true ↔ (wv' = true ∧ (i ∈ os.take k ∨ bf x y = false))) → Hid (v2 = true ↔ (okTo os L k ∧ ∀ (i' : Nat) (x : Cl), i' < i + 1 → L[i']? = some x → i' ∈ os.take k ∨ bf x y = false)) := fun v2 h2 => by
                  show _ ↔ _
                  rw [h2, hW.out]
                  constructor
                  · rintro ⟨⟨a1, a2⟩, a3⟩
                    refine ⟨a1, fun i' x' hi' hx' => ?_⟩
                    rcases Nat.lt_succ_iff_lt_or_eq.1 hi' with h | rfl
                    · exact a2 i' x' h hx'
                    · rw [hx] at hx'; injection hx' with hx'; subst hx'; exact a3
                  · rintro ⟨a1, a2⟩
                    exact ⟨⟨a1, fun i' x' hi' hx' => a2 i' x' (by omega) hx'⟩, a2 i x (by omega) hx⟩
                have HST := Lib.hid hstep
                have hbc := Lib.hid (fun W => before_any x y W)
                clear hstep hW hx hcx e1
                cases wv' with
                | false =>
                  go_upto_region 24 with (fail)
                  (refine wp_region_nw (by kernel_rfl) (by kernel_rfl) ?_; (repeat (go_big_quiet_step (fail))); refine wpQuiet_nil ?_; intro _ hreg; obtain ⟨dW, rfl⟩ : Nw _ _ := hreg)
                  go_wp2
                  refine ⟨⟨i + 1, false, by omega, rfl, by go_num, HST.out false (by simp), (by repeat (first | exact Xt.Nw.refl _ | refine Xt.Nw.drew ?_ | refine Xt.Nw.drewN ?_ _ | refine Xt.Nw.alloc ?_ _ | refine Xt.Nw.joined ?_ | refine Xt.Nw.drewd ?_ | refine Xt.Nw.drewdN ?_ | refine Xt.Nw.ext ?_ | refine Xt.Nw.ext_some ?_ (by assumption) | refine Xt.Nw.setCell ?_ (by simp [go_sem] <;> omega) _))⟩, by first | (simp [intOf]; omega) | omega⟩
                | true =>
                  by_cases hm : i ∈ os.take k
                  · have hsq : wr.cell? ⟨bb, i, none⟩ = some (.bool true) := by rw [hsn.out.cell i hli]; simp [hm]
                    have HM := Lib.hid hm
                    clear hm
                    go_upto_region 24 with (fail)
                    (refine wp_region_nw (by kernel_rfl) (by kernel_rfl) ?_; (repeat (go_big_quiet_step (fail))); refine wpQuiet_nil ?_; intro _ hreg; obtain ⟨dW, rfl⟩ : Nw _ _ := hreg)
                    go_wp2
                    refine ⟨⟨i + 1, true, by omega, rfl, by go_num, HST.out true (by simp [HM.out]), (by repeat (first | exact Xt.Nw.refl _ | refine Xt.Nw.drew ?_ | refine Xt.Nw.drewN ?_ _ | refine Xt.Nw.alloc ?_ _ | refine Xt.Nw.joined ?_ | refine Xt.Nw.drewd ?_ | refine Xt.Nw.drewdN ?_ | refine Xt.Nw.ext ?_ | refine Xt.Nw.ext_some ?_ (by assumption) | refine Xt.Nw.setCell ?_ (by simp [go_sem] <;> omega) _))⟩, by first | (simp [intOf]; omega) | omega⟩
                  · have hsq : wr.cell? ⟨bb, i, none⟩ = some (.bool false) := by rw [hsn.out.cell i hli]; simp [hm]
                    have HM := Lib.hid hm
                    clear hm
                    cases hb0 : bf x y with
                    | false =>
                      rw [hb0] at hbc
                      have HB0 := Lib.hid hb0
                      clear hb0
                      go_upto_region 24 with (fail)
                      (refine wp_region_nw (by kernel_rfl) (by kernel_rfl) ?_; (repeat (go_big_quiet_step ((go_at_call 30; exact quiet_of (hbc.out _))))); refine wpQuiet_nil ?_; intro _ hreg; obtain ⟨dW, rfl⟩ : Nw _ _ := hreg)
                      go_wp2
                      refine ⟨⟨i + 1, true, by omega, rfl, by go_num, HST.out true (by simp [HB0.out]), (by repeat (first | exact Xt.Nw.refl _ | refine Xt.Nw.drew ?_ | refine Xt.Nw.drewN ?_ _ | refine Xt.Nw.alloc ?_ _ | refine Xt.Nw.joined ?_ | refine Xt.Nw.drewd ?_ | refine Xt.Nw.drewdN ?_ | refine Xt.Nw.ext ?_ | refine Xt.Nw.ext_some ?_ (by assumption) | refine Xt.Nw.setCell ?_ (by simp [go_sem] <;> omega) _))⟩, by first | (simp [intOf]; omega) | omega⟩
                    | true =>
                      rw [hb0] at hbc
                      have HB0 := Lib.hid hb0
                      clear hb0
                      go_upto_region 24 with (fail)
                      (refine wp_region_nw (by kernel_rfl) (by kernel_rfl) ?_; (repeat (go_big_quiet_step ((go_at_call 30; exact quiet_of (hbc.out _))))); refine wpQuiet_nil ?_; intro _ hreg; obtain ⟨dW, rfl⟩ : Nw _ _ := hreg)
                      go_wp2
                      refine ⟨⟨i + 1, false, by omega, rfl, by go_num, HST.out false (by simp [HB0.out, HM.out]), (by repeat (first | exact Xt.Nw.refl _ | refine Xt.Nw.drew ?_ | refine Xt.Nw.drewN ?_ _ | refine Xt.Nw.alloc ?_ _ | refine Xt.Nw.joined ?_ | refine Xt.Nw.drewd ?_ | refine Xt.Nw.drewdN ?_ | refine Xt.Nw.ext ?_ | refine Xt.Nw.ext_some ?_ (by assumption) | refine Xt.Nw.setCell ?_ (by simp [go_sem] <;> omega) _))⟩, by first | (simp [intOf]; omega) | omega⟩
              · have hli2 : ¬ (i : Int) < (n1 : Int) := by omega
                have hin : n1 ≤ i := by omega
                have hfin : Hid (wv' = true ↔ okTo os L (k + 1)) := by
                  show _ ↔ _
                  rw [okTo_succ HQ.out HY.out, hW.out]
                  constructor
                  · rintro ⟨a1, a2⟩
                    exact ⟨a1, fun i' x hx => a2 i' x (by have := (List.getElem?_eq_some_iff.1 hx).1; have := HN1.out; omega) hx⟩
                  · rintro ⟨a1, a2⟩
                    exact ⟨a1, fun i' x _ hx => a2 i' x hx⟩
                have hn8 : Nw wr (wr.ext none d) := ⟨_, rfl⟩
                have hcz8 : (wr.ext none d).cell? ⟨bx, ox + k, none⟩ = some (.int .i64 q) := by rw [cell_ext]; exact hcz
                have hsn8 := hsn.out.nw hn8
                have hc8 := hsn8.cell q hqn
                have hf8 := hsn8.fz q hqn
                have HS8 := Lib.hid hsn8
                have HW8 := Lib.hid (HNW.out.trans hn8)
                clear hn8 hsn8 hW hin
                generalize wr.ext none d = W8 at *
                go_wp2
                refine ⟨⟨k + 1, wv', by omega, rfl, by go_num, hfin, (HS8.out.set hqn).congr (fun i _ => take_seen HQ.out i), Nw.setCell HW8.out (p := ⟨bb, q, none⟩) (by show W6.heap.size ≤ bb; have := HBB.out; omega) _⟩, by first | (simp [intOf]; omega) | omega⟩
          · have hkn : ¬ (k : Int) < (no : Int) := by omega
            have hEq : (ab == wv) = true := by
              have h1 := hwv.out
              rw [okTo_all (by have := HNO.out; omega)] at h1
              rw [beq_iff_eq, Bool.eq_iff_iff, HAG.out, h1]
            have HN8 := Lib.hid (HN6.out.trans hnw.out)
            clear hwv hsn hnw
            go_wp2_with fail
            refine (awake_any _).mono ?_
            rintro e w' ⟨rfl, dW, rfl⟩
            go_wp2
            go_ret
            exact ⟨rfl, HN8.out.trans ((by repeat (first | exact Xt.Nw.refl _ | refine Xt.Nw.drew ?_ | refine Xt.Nw.drewN ?_ _ | refine Xt.Nw.alloc ?_ _ | refine Xt.Nw.joined ?_ | refine Xt.Nw.drewd ?_ | refine Xt.Nw.drewdN ?_ | refine Xt.Nw.ext ?_ | refine Xt.Nw.ext_some ?_ (by assumption) | refine Xt.Nw.setCell ?_ (by simp [go_sem] <;> omega) _)))⟩
      · have hE : agrE (natI os) L = 15 := by rw [agrE, if_neg (by rw [hb]; simp)]
        rw [hv, hE, agrB_false (show agrE (natI os) L ≠ 0 by rw [hE]; decide)]
        clear hb hv hE
        go_wp2_with fail
        refine (awake_any _).mono ?_
        rintro e w' ⟨rfl, dW, rfl⟩
        go_wp2
        go_ret
        exact ⟨rfl, HN6.out.trans ((by repeat (first | exact Xt.Nw.refl _ | refine Xt.Nw.drew ?_ | refine Xt.Nw.drewN ?_ _ | refine Xt.Nw.alloc ?_ _ | refine Xt.Nw.joined ?_ | refine Xt.Nw.drewd ?_ | refine Xt.Nw.drewdN ?_ | refine Xt.Nw.ext ?_ | refine Xt.Nw.ext_some ?_ (by assumption) | refine Xt.Nw.setCell ?_ (by simp [go_sem] <;> omega) _)))⟩
end Go.Proofs.Ytjpgechcfkhoaaa
