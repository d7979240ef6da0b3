import Derived.Test.YtkikdpdainmlcaaGreatGZd
import Derived.Test.YtkikdpdainmlcaaGreatGY
import Derived.Test.YtkikdpdainmlcaaGreatGQm
import Derived.Test.YtkikdpdainmlcaaGreatGNc
set_option linter.unusedVariables false
set_option linter.unusedSimpArgs false
set_option linter.unnecessarySimpa false
namespace Go.Proofs.YtkikdpdainmlcaaGreat
open Go.RowKit Go.Xt
/-! begins, of. -/
set_option maxHeartbeats 1000000 in
theorem begins_any (c : Cl) (w : World) :
    Calls Tryz.prog 31 #[cv c] w fun e w' => e = .returned (.bool (begB c)) ∧ Nw w w' := by
  go_enter Tryz.func31, Tryz.ntmps31
  go_wp2
  all_goals (go_ret; refine ⟨ret_bool ?_, nwa⟩)
  all_goals (simp_all [begB])
  all_goals first | rfl | (intro h; omega) | omega
theorem ofG_at {th : Int} {l : List Cl} {k : Nat} {x : Cl} (hx : l[k]? = some x) : ofG th k (l.drop k) = if x.th ≠ th ∨ x.ans < 0 then ofG th (k + 1) (l.drop (k + 1)) else if begB x = true then []
      else if x.kd = 12 ∨ x.kd = 13 ∨ x.kd = 14 then (if x.kd = 14 ∧ x.re = 0 then [k] else k :: ofG th (k + 1) (l.drop (k + 1))) else ofG th (k + 1) (l.drop (k + 1)) := by
  obtain ⟨p, e⟩ := List.getElem?_eq_some_iff.1 hx
  rw [List.drop_eq_getElem_cons p, e, ofG]
theorem own_int1 (w : World) (v : Int) : (w.alloc (.cells #[.int .i64 v] 3)).ownsRow w.heap.size 3 1 (.slice (some ⟨w.heap.size, 0, none⟩) 1 1) 1 [.int .i64 v] :=
  ⟨by simp, .inr ⟨w.heap.size, 1, #[.int .i64 v], rfl, Nat.le_refl _, heap_alloc_new w _, Nat.le_refl _, by unfold maxLen; omega, rfl, by simp⟩⟩
theorem CallAt.nwq {W W' : World} {b o : Nat} {c : Cl} (hn : Nw W W') [h : CallAt W b o c] : CallAt W' b o c := by obtain ⟨d, rfl⟩ := hn; exact inferInstance
theorem CallAt.chgq {W W' : World} {b o : Nat} {c : Cl} {X : List Nat} (hc : Chg X W W') (hb : b ∉ X) [h : CallAt W b o c] : CallAt W' b o c := ⟨AtC.of_range fun j v hv => hc.cell (h.at_.range j v hv) hb, Nat.lt_of_lt_of_le h.lt hc.size⟩
set_option maxRecDepth 20000 in
set_option maxHeartbeats 8000000 in
theorem of_any (op : Nat) (x0 : Cl) (A : Option Addr) (n c : Nat) (l : List Cl) (w : World) (hn : n ≤ 1000) (hc : n ≤ c) (hcm : c ≤ 9223372036854775807) (h0 : l[op]? = some x0) (hl : Cs w A n l) :
    Calls Tryz.prog 32 #[.int .i64 (op : Int), .slice A n c] w fun e w' => ∃ v, e = .returned v ∧ OwnI w' w.heap.size v (natI (ofP l op)) ∧ Nw w w' := by
  have HL := Lib.hid hl
  have hlen := hl.1
  have hop : op < n := by have := (List.getElem?_eq_some_iff.1 h0).1; omega
  obtain ⟨b, o, y0, rfl, hb, hy0, hcx0⟩ := hl.get hop
  obtain rfl : x0 = y0 := by rw [h0] at hy0; injection hy0
  haveI : CallAt w b (o + op * 18) x0 := ⟨hcx0, hb⟩
  haveI : In b w := ⟨hb⟩
  have HP := Lib.hid (ofP_tail h0)
  have t0 : w.cell? ⟨b, o + op * 18, none⟩ = some (.int .i64 x0.th) := hcx0.1
  have hopn : (op : Int) < (n : Int) := by omega
  have hop0 : (0 : Int) ≤ (op : Int) := by omega
  clear hl hy0 hcx0 h0
  go_enter Tryz.func32, Tryz.ntmps32
  go_wp2_with fail
  go_loopw [5, 6, 7] (fun a i _ wr => ∃ (k : Nat) (L : List Nat), op + 1 ≤ k ∧ k ≤ n ∧ L.length ≤ k ∧ i = .int .i64 k ∧ OwnI wr w.heap.size a (natI L) ∧ Hid (ofP l op = L ++ ofG x0.th k (l.drop k)) ∧ Nw w wr) (fun _ i _ _ => n - (intOf i).toNat)
  case atStart => exact ⟨op + 1, [op], Nat.le_refl _, by omega, by simp, by go_num, own_int1 w op, by show _ = _; rw [HP.out]; rfl, nwa⟩
  case round =>
    obtain ⟨k, L, hk0, hk, hLk, rfl, hown, hP, d, rfl⟩ := hrel
    have hL2 : (natI L).length ≤ k := by simp [natI]; exact hLk
    by_cases hlt : k < n
    · obtain ⟨b', o', x, e', hb', hx, hcx⟩ := HL.out.get hlt
      obtain ⟨rfl, rfl⟩ : b = b' ∧ o = o' := by simpa using e'
      haveI : CallAt w b (o + k * 18) x := ⟨hcx, hb⟩
      have hS := Lib.hid (ofG_at (th := x0.th) hx)
      have hkn : (k : Int) < (n : Int) := by omega
      clear hx hcx e' hb'
      by_cases c1 : x.th = x0.th
      · have d1 : (x.th != x0.th) = false := by simpa using c1
        by_cases c2 : x.ans < 0
        · have d2 : decide (x.ans < 0) = true := by simpa using c2
          have hT : ofP l op = L ++ ofG x0.th (k + 1) (l.drop (k + 1)) := by rw [hP.out, hS.out, if_pos (.inr c2)]
          have HT := Lib.hid hT
          clear hT c1
          go_upto_region 6 with (fail)
          go_region
          go_wp2_with fail
          all_goals exact ⟨⟨k + 1, L, by omega, by omega, by omega, by go_num, own_nw hown (nwa), HT.out, nwa⟩, by simp [intOf]; omega⟩
        · have d2 : decide (x.ans < 0) = false := by simpa using c2
          cases c3 : begB x with
          | true =>
            have hT : ofP l op = L := by rw [hP.out, hS.out, if_neg (by rintro (h | h); exact h c1; exact c2 h), if_pos c3, List.append_nil]
            have HT := Lib.hid hT
            clear hT c1
            go_upto_region 6 with (fail)
            go_region
            go_wp2_with (go_at_call 31; refine (begins_any x _).mono ?_; rintro e w' ⟨rfl, dW, rfl⟩)
            all_goals exact bodyPost_ret (results_tmp rfl _ _ _) rfl ⟨_, rfl, by rw [HT.out]; exact own_nw hown (nwa), nwa⟩
          | false =>
            have hS2 : ofG x0.th k (l.drop k) = if x.kd = 12 ∨ x.kd = 13 ∨ x.kd = 14 then (if x.kd = 14 ∧ x.re = 0 then [k] else k :: ofG x0.th (k + 1) (l.drop (k + 1))) else ofG x0.th (k + 1) (l.drop (k + 1)) := by
              rw [hS.out, if_neg (by rintro (h | h); exact h c1; exact c2 h), if_neg (by rw [c3]; simp)]
            have HS2 := Lib.hid hS2
            clear hS2 c1
            have hlt5 := fun q hq => (World.ownsRow.lt hown q hq)
            go_upto_region 6 with (fail)
            go_region
            go_upto_region 8 with (go_at_call 31; refine (begins_any x _).mono ?_; rintro e W5 ⟨rfl, hn5⟩; haveI hx5 : CallAt W5 (w.ext none d).heap.size 0 x := CallAt.nwq hn5; have e2 : W5.cell? ⟨(w.ext none d).heap.size, 2, none⟩ = some (.int .u8 x.kd) := (AtC.range hx5.at_) 2 _ rfl; have e13 : W5.cell? ⟨(w.ext none d).heap.size, 13, none⟩ = some (.int .i64 x.re) := (AtC.range hx5.at_) 13 _ rfl; have hown5 : OwnI W5 w.heap.size u5 (natI L) := own_nw hown (Nw.trans (nwa) hn5); have hnw5 : Nw w W5 := Nw.trans (nwa) hn5; have hob : (w.ext none d).heap.size ∉ u5.ownBlock.toList := (fun hq => by rw [Option.mem_toList] at hq; have := (World.ownsRow.lt hown _ hq).2; omega); clear hn5)
            by_cases k14 : x.kd = 14
            · have q1 : (x.kd == 12) = false := by rw [k14]; rfl
              have q2 : (x.kd == 13) = false := by rw [k14]; rfl
              have q3 : (x.kd == 14) = true := by rw [k14]; rfl
              by_cases r0 : x.re = 0
              · have hT : ofP l op = L ++ [k] := by rw [hP.out, HS2.out, if_pos (.inr (.inr k14)), if_pos ⟨k14, r0⟩]
                have HT := Lib.hid hT
                have q4 : (x.re == 0) = true := by rw [r0]; rfl
                clear hT k14 r0
                go_wp2_with (at_builtin; refine wpList_appC rfl _ _ 46 rfl 3 (.int .i64 0) 1 8 Tryz.underlying46 intInfo rfl (by decide) w.heap.size _ (by have := hnw5.grown.size; simpa using this) u5 (natI L).length (ints (natI L)) rfl (own_nw (show W5.ownsRow w.heap.size 3 1 u5 (natI L).length (ints (natI L)) from hown5) (nwa)) _ 1 1 _ [.int .i64 (k : Int)] rfl rfl rfl (by intro u hu; simp at hu; subst hu; rfl) (by unfold maxLen; omega) (by omega) ?_; intro v8 W8 hA hcA hmA; haveI hx8 : CallAt W8 (w.ext none d).heap.size 0 x := CallAt.chgq hcA hob; have f2 : W8.cell? ⟨(w.ext none d).heap.size, 2, none⟩ = some (.int .u8 x.kd) := (AtC.range hx8.at_) 2 _ rfl; have f13 : W8.cell? ⟨(w.ext none d).heap.size, 13, none⟩ = some (.int .i64 x.re) := (AtC.range hx8.at_) 13 _ rfl; have hown8 : OwnI W8 w.heap.size v8 (natI (L ++ [k])) := OwnI.cast hA (by simp [natI]) (by simp [natI, ints]); have hnw8 : Nw w W8 := nw_chg2 (Nw.trans hnw5 (nwa)) hcA (fun q hq => by rw [Option.mem_toList] at hq; exact (World.ownsRow.lt hown q hq).1); clear hA hcA hmA)
                all_goals exact bodyPost_ret (results_tmp rfl _ _ _) rfl ⟨_, rfl, by rw [HT.out]; exact own_nw hown8 (nwa), Nw.trans hnw8 (nwa)⟩
              · have hT : ofP l op = (L ++ [k]) ++ ofG x0.th (k + 1) (l.drop (k + 1)) := by rw [hP.out, HS2.out, if_pos (.inr (.inr k14)), if_neg (fun h => r0 h.2)]; simp
                have HT := Lib.hid hT
                have q4 : (x.re == 0) = false := by simpa using r0
                clear hT k14 r0
                go_wp2_with (at_builtin; refine wpList_appC rfl _ _ 46 rfl 3 (.int .i64 0) 1 8 Tryz.underlying46 intInfo rfl (by decide) w.heap.size _ (by have := hnw5.grown.size; simpa using this) u5 (natI L).length (ints (natI L)) rfl (own_nw (show W5.ownsRow w.heap.size 3 1 u5 (natI L).length (ints (natI L)) from hown5) (nwa)) _ 1 1 _ [.int .i64 (k : Int)] rfl rfl rfl (by intro u hu; simp at hu; subst hu; rfl) (by unfold maxLen; omega) (by omega) ?_; intro v8 W8 hA hcA hmA; haveI hx8 : CallAt W8 (w.ext none d).heap.size 0 x := CallAt.chgq hcA hob; have f2 : W8.cell? ⟨(w.ext none d).heap.size, 2, none⟩ = some (.int .u8 x.kd) := (AtC.range hx8.at_) 2 _ rfl; have f13 : W8.cell? ⟨(w.ext none d).heap.size, 13, none⟩ = some (.int .i64 x.re) := (AtC.range hx8.at_) 13 _ rfl; have hown8 : OwnI W8 w.heap.size v8 (natI (L ++ [k])) := OwnI.cast hA (by simp [natI]) (by simp [natI, ints]); have hnw8 : Nw w W8 := nw_chg2 (Nw.trans hnw5 (nwa)) hcA (fun q hq => by rw [Option.mem_toList] at hq; exact (World.ownsRow.lt hown q hq).1); clear hA hcA hmA)
                all_goals exact ⟨⟨k + 1, L ++ [k], by omega, by omega, by simp; omega, by go_num, own_nw hown8 (nwa), HT.out, Nw.trans hnw8 (nwa)⟩, by simp [intOf]; omega⟩
            · have q3 : (x.kd == 14) = false := by simpa using k14
              by_cases k12 : x.kd = 12 ∨ x.kd = 13
              · have hT : ofP l op = (L ++ [k]) ++ ofG x0.th (k + 1) (l.drop (k + 1)) := by rw [hP.out, HS2.out, if_pos (by omega), if_neg (fun h => k14 h.1)]; simp
                have HT := Lib.hid hT
                clear hT k14
                rcases k12 with k12 | k12
                · have q1 : (x.kd == 12) = true := by rw [k12]; rfl
                  clear k12
                  go_wp2_with (at_builtin; refine wpList_appC rfl _ _ 46 rfl 3 (.int .i64 0) 1 8 Tryz.underlying46 intInfo rfl (by decide) w.heap.size _ (by have := hnw5.grown.size; simpa using this) u5 (natI L).length (ints (natI L)) rfl (own_nw (show W5.ownsRow w.heap.size 3 1 u5 (natI L).length (ints (natI L)) from hown5) (nwa)) _ 1 1 _ [.int .i64 (k : Int)] rfl rfl rfl (by intro u hu; simp at hu; subst hu; rfl) (by unfold maxLen; omega) (by omega) ?_; intro v8 W8 hA hcA hmA; haveI hx8 : CallAt W8 (w.ext none d).heap.size 0 x := CallAt.chgq hcA hob; have f2 : W8.cell? ⟨(w.ext none d).heap.size, 2, none⟩ = some (.int .u8 x.kd) := (AtC.range hx8.at_) 2 _ rfl; have f13 : W8.cell? ⟨(w.ext none d).heap.size, 13, none⟩ = some (.int .i64 x.re) := (AtC.range hx8.at_) 13 _ rfl; have hown8 : OwnI W8 w.heap.size v8 (natI (L ++ [k])) := OwnI.cast hA (by simp [natI]) (by simp [natI, ints]); have hnw8 : Nw w W8 := nw_chg2 (Nw.trans hnw5 (nwa)) hcA (fun q hq => by rw [Option.mem_toList] at hq; exact (World.ownsRow.lt hown q hq).1); clear hA hcA hmA)
                  all_goals exact ⟨⟨k + 1, L ++ [k], by omega, by omega, by simp; omega, by go_num, own_nw hown8 (nwa), HT.out, Nw.trans hnw8 (nwa)⟩, by simp [intOf]; omega⟩
                · have q1 : (x.kd == 12) = false := by rw [k12]; rfl
                  have q2 : (x.kd == 13) = true := by rw [k12]; rfl
                  clear k12
                  go_wp2_with (at_builtin; refine wpList_appC rfl _ _ 46 rfl 3 (.int .i64 0) 1 8 Tryz.underlying46 intInfo rfl (by decide) w.heap.size _ (by have := hnw5.grown.size; simpa using this) u5 (natI L).length (ints (natI L)) rfl (own_nw (show W5.ownsRow w.heap.size 3 1 u5 (natI L).length (ints (natI L)) from hown5) (nwa)) _ 1 1 _ [.int .i64 (k : Int)] rfl rfl rfl (by intro u hu; simp at hu; subst hu; rfl) (by unfold maxLen; omega) (by omega) ?_; intro v8 W8 hA hcA hmA; haveI hx8 : CallAt W8 (w.ext none d).heap.size 0 x := CallAt.chgq hcA hob; have f2 : W8.cell? ⟨(w.ext none d).heap.size, 2, none⟩ = some (.int .u8 x.kd) := (AtC.range hx8.at_) 2 _ rfl; have f13 : W8.cell? ⟨(w.ext none d).heap.size, 13, none⟩ = some (.int .i64 x.re) := (AtC.range hx8.at_) 13 _ rfl; have hown8 : OwnI W8 w.heap.size v8 (natI (L ++ [k])) := OwnI.cast hA (by simp [natI]) (by simp [natI, ints]); have hnw8 : Nw w W8 := nw_chg2 (Nw.trans hnw5 (nwa)) hcA (fun q hq => by rw [Option.mem_toList] at hq; exact (World.ownsRow.lt hown q hq).1); clear hA hcA hmA)
                  all_goals exact ⟨⟨k + 1, L ++ [k], by omega, by omega, by simp; omega, by go_num, own_nw hown8 (nwa), HT.out, Nw.trans hnw8 (nwa)⟩, by simp [intOf]; omega⟩
              · have hT : ofP l op = L ++ ofG x0.th (k + 1) (l.drop (k + 1)) := by rw [hP.out, HS2.out, if_neg (by omega)]
                have HT := Lib.hid hT
                have q1 : (x.kd == 12) = false := beq_eq_false_iff_ne.2 (fun h => k12 (.inl h))
                have q2 : (x.kd == 13) = false := beq_eq_false_iff_ne.2 (fun h => k12 (.inr h))
                clear hT k14 k12
                go_wp2_with fail
                all_goals exact ⟨⟨k + 1, L, by omega, by omega, by omega, by go_num, own_nw hown5 (nwa), HT.out, Nw.trans hnw5 (nwa)⟩, by simp [intOf]; omega⟩
      · have d1 : (x.th != x0.th) = true := by simpa using c1
        have hT : ofP l op = L ++ ofG x0.th (k + 1) (l.drop (k + 1)) := by rw [hP.out, hS.out, if_pos (.inl c1)]
        have HT := Lib.hid hT
        clear hT
        go_upto_region 6 with (fail)
        go_region
        go_wp2_with fail
        all_goals exact ⟨⟨k + 1, L, by omega, by omega, by omega, by go_num, own_nw hown (nwa), HT.out, nwa⟩, by simp [intOf]; omega⟩
    · obtain rfl : k = n := by omega
      have hT : ofP l op = L := by rw [hP.out, List.drop_of_length_le (by omega)]; simp [ofG]
      have HT := Lib.hid hT
      clear hT
      have hkn : ¬ (k : Int) < (k : Int) := by omega
      go_wp2_with fail
      all_goals exact bodyPost_ret (results_tmp rfl _ _ _) rfl ⟨_, rfl, by rw [HT.out]; exact own_nw hown (nwa), nwa⟩
end Go.Proofs.YtkikdpdainmlcaaGreat
namespace Go.Proofs.YtkikdpdainmlcaaGreat
open Go.RowKit Go.Xt
/-! The methods of left. -/
structure LfAt (W : World) (b : Nat) (x : Lf) : Prop where
  c0 : W.cell? ⟨b, 0, none⟩ = some (.int .u64 x.lo)
  c1 : W.cell? ⟨b, 1, none⟩ = some (.int .u64 x.hi)
  c2 : W.cell? ⟨b, 2, none⟩ = some (.bool x.more)
  f0 : W.frozen? ⟨b, 0, none⟩ = false
  f2 : W.frozen? ⟨b, 2, none⟩ = false
set_option maxHeartbeats 4000000 in
theorem lfrom_any (b : Nat) (x : Lf) (key : Int) (by_ : Bool) (W : World) (h : LfAt W b x) (hk : 0 ≤ key ∧ key < 18446744073709551616) (hh : x.hi < 18446744073709551616) :
    Calls Tryz.prog 68 #[.pointer (some ⟨b, 0, none⟩), .int .u64 key, .bool by_] W fun e W' => e = .returned (.tuple #[]) ∧ LfAt W' b (fromL x key by_) ∧ Chg [b] W W' := by
  obtain ⟨c0, c1, c2, f0, f2⟩ := h
  have hb : b < W.heap.size := World.block_lt_of_cell? W _ c0
  haveI : In b W := ⟨hb⟩
  have mixed : Tryz.prog.follows .mixedOrders = true := by kernel_rfl
  obtain ⟨lo, hi, more⟩ := x
  simp only at c0 c1 c2 hh
  have hk0 := hk.1
  have hx0 : LfAt W b ⟨lo, hi, more⟩ := ⟨c0, c1, c2, f0, f2⟩
  have HX := Lib.hid hx0
  clear hx0
  cases more with
  | false =>
    go_enter Tryz.func68, Tryz.ntmps68
    go_wp2
    all_goals (first | refine bodyPost_ret (results_none rfl _ _ _) rfl ?_ | refine bodyPost_end (results_none rfl _ _ _) rfl ?_); all_goals (refine ⟨rfl, ?_, Chg.of_nw (Nw.refl W)⟩; rw [fromL, if_pos (.inl rfl)]; exact HX.out)
  | true =>
    by_cases k1 : key < lo
    · have d1 : decide (key < lo) = true := by simpa using k1
      go_enter Tryz.func68, Tryz.ntmps68
      go_wp2
      all_goals (first | refine bodyPost_ret (results_none rfl _ _ _) rfl ?_ | refine bodyPost_end (results_none rfl _ _ _) rfl ?_); all_goals (refine ⟨rfl, ?_, Chg.of_nw (Nw.refl W)⟩; rw [fromL, if_pos (.inr k1)]; exact HX.out)
    · have d1 : decide (key < lo) = false := by simpa using k1
      by_cases k2 : hi < key ∨ (by_ = true ∧ key = hi)
      · have HF := Lib.hid (show fromL ⟨lo, hi, true⟩ key by_ = ⟨lo, hi, false⟩ by rw [fromL, if_neg (by rintro (h | h); cases h; exact k1 h), if_pos k2])
        have HC := Lib.hid (And.intro c0 (And.intro c1 (And.intro f0 f2)))
        by_cases k3 : hi < key
        · have d2 : decide (hi < key) = true := by simpa using k3
          clear k2
          go_enter Tryz.func68, Tryz.ntmps68
          go_wp2
          all_goals (first | refine bodyPost_ret (results_none rfl _ _ _) rfl ?_ | refine bodyPost_end (results_none rfl _ _ _) rfl ?_); all_goals (refine ⟨rfl, ?_, Chg.set1 W b 2 _⟩; rw [HF.out]; exact ⟨by simp [go_sem, HC.out.1], by simp [go_sem, HC.out.2.1], by simp [go_sem, c2], by simp [go_sem, HC.out.2.2.1], by simp [go_sem, HC.out.2.2.2]⟩)
        · have k4 : by_ = true ∧ key = hi := k2.resolve_left k3
          obtain ⟨rfl, rfl⟩ := k4
          have d2 : decide (key < key) = false := by simp
          have d3 : (key == key) = true := by simp
          clear k2 k3
          go_enter Tryz.func68, Tryz.ntmps68
          go_wp2
          all_goals (first | refine bodyPost_ret (results_none rfl _ _ _) rfl ?_ | refine bodyPost_end (results_none rfl _ _ _) rfl ?_); all_goals (refine ⟨rfl, ?_, Chg.set1 W b 2 _⟩; rw [HF.out]; exact ⟨by simp [go_sem, HC.out.1], by simp [go_sem, HC.out.2.1], by simp [go_sem, c2], by simp [go_sem, HC.out.2.2.1], by simp [go_sem, HC.out.2.2.2]⟩)
      · have HF := Lib.hid (show fromL ⟨lo, hi, true⟩ key by_ = ⟨if by_ = true then key + 1 else key, hi, true⟩ by rw [fromL, if_neg (by rintro (h | h); cases h; exact k1 h), if_neg k2])
        have HC := Lib.hid (And.intro c0 (And.intro c1 (And.intro f0 f2)))
        have d2 : decide (hi < key) = false := by rw [decide_eq_false_iff_not]; exact fun h => k2 (.inl h)
        cases by_ with
        | false =>
          clear k2
          go_enter Tryz.func68, Tryz.ntmps68
          go_wp2
          all_goals (first | refine bodyPost_ret (results_none rfl _ _ _) rfl ?_ | refine bodyPost_end (results_none rfl _ _ _) rfl ?_); all_goals (refine ⟨rfl, ?_, Chg.set1 W b 0 _⟩; rw [HF.out]; exact ⟨by simp [go_sem, HC.out.1], by simp [go_sem, HC.out.2.1], by simp [go_sem, c2], by simp [go_sem, HC.out.2.2.1], by simp [go_sem, HC.out.2.2.2]⟩)
        | true =>
          have d3 : (key == hi) = false := beq_eq_false_iff_ne.2 (fun h => k2 (.inr ⟨rfl, h⟩))
          have d4 : IntKind.u64.wrap (key + 1) = key + 1 := by have h5 : ¬ hi < key := fun h => k2 (.inl h); have h6 : key ≠ hi := fun h => k2 (.inr ⟨rfl, h⟩); rw [IntKind.wrap_u64]; omega
          clear k2
          go_enter Tryz.func68, Tryz.ntmps68
          go_wp2
          all_goals (first | refine bodyPost_ret (results_none rfl _ _ _) rfl ?_ | refine bodyPost_end (results_none rfl _ _ _) rfl ?_); all_goals (refine ⟨rfl, ?_, (Chg.set1 W b 0 _).trans (Chg.set1 _ b 0 _)⟩; rw [HF.out]; exact ⟨by simp [go_sem, HC.out.1], by simp [go_sem, HC.out.2.1], by simp [go_sem, c2], by simp [go_sem, HC.out.2.2.1], by simp [go_sem, HC.out.2.2.2]⟩)
theorem LfAt.nw {W W' : World} {b : Nat} {x : Lf} (h : LfAt W b x) (hn : Nw W W') : LfAt W' b x :=
  have hb : b < W.heap.size := World.block_lt_of_cell? W _ h.c0
  ⟨cell_nw h.c0 hn, cell_nw h.c1 hn, cell_nw h.c2 hn, (frozen_nw hb hn).trans h.f0, (frozen_nw hb hn).trans h.f2⟩
def Cw (W : World) (b : Nat) (W' : World) : Prop := ∃ W1, Nw W W1 ∧ Chg [b] W1 W'
set_option maxHeartbeats 4000000 in
theorem lseek_any (b : Nat) (x : Lf) (c : Cl) (W : World) (h : LfAt W b x) (hk : 0 ≤ c.ka ∧ c.ka < 18446744073709551616) (hh : x.hi < 18446744073709551616) :
    Calls Tryz.prog 52 #[.pointer (some ⟨b, 0, none⟩), cv c] W fun e W' => e = .returned (.tuple #[]) ∧ LfAt W' b (seekL x c) ∧ Cw W b W' := by
  have HX := Lib.hid h
  have HK := Lib.hid hk
  have HH := Lib.hid hh
  have hb : b < W.heap.size := World.block_lt_of_cell? W _ h.c0
  haveI : In b W := ⟨hb⟩
  clear h hk hh
  by_cases r0 : c.re = 0
  · have d1 : (c.re == 0) = true := by simpa using r0
    have HS := Lib.hid (show seekL x c = fromL x c.ka false from if_pos r0)
    clear r0
    go_enter Tryz.func52, Tryz.ntmps52
    go_wp2_with (go_at_call 68; refine (lfrom_any b x c.ka false _ (HX.out.nw (nwa)) HK.out HH.out).mono ?_; rintro e W' ⟨rfl, h1, h2⟩)
    all_goals (first | refine bodyPost_ret (results_none rfl _ _ _) rfl ?_ | refine bodyPost_end (results_none rfl _ _ _) rfl ?_); all_goals exact ⟨rfl, by rw [HS.out]; exact h1, _, (by first | exact (Nw.refl W).alloc _ | exact nwa), h2⟩
  · have d1 : (c.re == 0) = false := by simpa using r0
    have HS := Lib.hid (show seekL x c = x from if_neg r0)
    clear r0
    go_enter Tryz.func52, Tryz.ntmps52
    go_wp2
    all_goals (first | refine bodyPost_ret (results_none rfl _ _ _) rfl ?_ | refine bodyPost_end (results_none rfl _ _ _) rfl ?_); all_goals exact ⟨rfl, by rw [HS.out]; exact HX.out.nw (nwa), _, (by first | exact (Nw.refl W).alloc _ | exact nwa), Chg.of_nw (Nw.refl _)⟩
set_option maxHeartbeats 4000000 in
theorem lnext_any (b : Nat) (x : Lf) (c : Cl) (W : World) (h : LfAt W b x) (hk : 0 ≤ c.rk ∧ c.rk < 18446744073709551616) (hh : x.hi < 18446744073709551616) :
    Calls Tryz.prog 51 #[.pointer (some ⟨b, 0, none⟩), cv c] W fun e W' => e = .returned (.tuple #[]) ∧ LfAt W' b (nextL' x c) ∧ Cw W b W' := by
  have HX := Lib.hid h
  have HK := Lib.hid hk
  have HH := Lib.hid hh
  have hb : b < W.heap.size := World.block_lt_of_cell? W _ h.c0
  have c0 := h.c0
  have c1 := h.c1
  have c2 := h.c2
  have f0 := h.f0
  have f2 := h.f2
  haveI : In b W := ⟨hb⟩
  clear h hk hh
  by_cases r1 : c.re = 14
  · have d0 : (c.re == 14) = true := by simpa using r1
    have HS := Lib.hid (show nextL' x c = { x with more := false } from if_pos r1)
    clear r1
    go_enter Tryz.func51, Tryz.ntmps51
    go_wp2
    all_goals (first | refine bodyPost_ret (results_none rfl _ _ _) rfl ?_ | refine bodyPost_end (results_none rfl _ _ _) rfl ?_); all_goals exact ⟨rfl, by rw [HS.out]; exact ⟨by simp [go_sem, c0], by simp [go_sem, c1], by simp [go_sem, c2], by simp [go_sem, f0], by simp [go_sem, f2]⟩, W, Nw.refl W, (Chg.set1 W b 2 _).trans (Chg.of_nw ((Nw.refl _).alloc _))⟩
  · have d0 : (c.re == 14) = false := by simpa using r1
    by_cases r0 : c.re = 0
    · have d1 : (c.re == 0) = true := by simpa using r0
      have HS := Lib.hid (show nextL' x c = fromL x c.rk true by rw [nextL', if_neg r1, if_pos r0])
      clear r0 r1
      go_enter Tryz.func51, Tryz.ntmps51
      go_wp2_with (go_at_call 68; refine (lfrom_any b x c.rk true _ (HX.out.nw (nwa)) HK.out HH.out).mono ?_; rintro e W' ⟨rfl, h1, h2⟩)
      all_goals (first | refine bodyPost_ret (results_none rfl _ _ _) rfl ?_ | refine bodyPost_end (results_none rfl _ _ _) rfl ?_); all_goals exact ⟨rfl, by rw [HS.out]; exact h1, _, (by first | exact (Nw.refl W).alloc _ | exact nwa), h2⟩
    · have d1 : (c.re == 0) = false := by simpa using r0
      have HS := Lib.hid (show nextL' x c = x by rw [nextL', if_neg r1, if_neg r0])
      clear r0 r1
      go_enter Tryz.func51, Tryz.ntmps51
      go_wp2
      all_goals (first | refine bodyPost_ret (results_none rfl _ _ _) rfl ?_ | refine bodyPost_end (results_none rfl _ _ _) rfl ?_); all_goals exact ⟨rfl, by rw [HS.out]; exact HX.out.nw (nwa), _, (by first | exact (Nw.refl W).alloc _ | exact nwa), Chg.of_nw (Nw.refl _)⟩
end Go.Proofs.YtkikdpdainmlcaaGreat
