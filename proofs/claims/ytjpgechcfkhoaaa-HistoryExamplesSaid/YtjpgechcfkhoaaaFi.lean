import Derived.Test.YtjpgechcfkhoaaaFh
import Derived.Test.YtjpgechcfkhoaaaFb
import Derived.Test.YtjpgechcfkhoaaaOp
namespace Go.Proofs.Ytjpgechcfkhoaaa
open Go.RowKit Go.Xt
/-- A slice of calls made by the call. -/
def NewC (base : Nat) (W : World) (A : Option Addr) (n c : Nat) (l : List Cl) : Prop := Cs W A n l ∧ n ≤ c ∧ c ≤ 9223372036854775807 ∧ ∀ b o, A = some ⟨b, o, none⟩ → base ≤ b ∧ o = 0
theorem OwnC.new {W : World} {base n : Nat} {v : Value} {l : List Cl} (h : OwnC W base v l) (hn : l.length = n) : ∃ A c, v = .slice A n c ∧ NewC base W A n c l := by
  obtain ⟨A, c, h1, h2, h3, h4, h5⟩ := h.form
  subst hn; exact ⟨A, c, h1, h2, h3, h4, h5⟩
theorem few_cs {A : Option Addr} {n c n1 : Nat} {l L : List Cl} (w : World) (hnc : n ≤ c) (hc : c ≤ 9223372036854775807) (hL : l.take 40 = L) (h1 : L.length = n1) (hl : Cs w A n l) :
    Calls Try.prog 10 #[.slice A n c] w fun e w' => ∃ A' c', e = .returned (.slice A' n1 c') ∧ NewC w.heap.size w' A' n1 c' L ∧ Nw w w' :=
  (few_any A n c l w hnc hc hl).mono fun e w' ⟨v, he, ho, hn⟩ => by
    subst hL
    obtain ⟨A', c', rfl, h⟩ := ho.new h1
    exact ⟨A', c', he, h, hn⟩
theorem OwnI.new {W : World} {base n : Nat} {v : Value} {l : List Int} (h : OwnI W base v l) (hn : l.length = n) : ∃ A c, v = .slice A n c ∧ Is W A n l := by
  obtain ⟨A, c, h1, h2⟩ := h.form
  subst hn; exact ⟨A, c, h1, h2⟩
theorem Is.take {W : World} {A : Option Addr} {n : Nat} {l : List Int} (h : Is W A n l) {k : Nat} (hk : k ≤ n) : Is W A k (l.take k) :=
  ⟨by rw [List.length_take, h.1]; omega, fun hn => by
    obtain ⟨b, o, hA, hb, hc⟩ := h.2 (by omega)
    exact ⟨b, o, hA, hb, fun i c hi => hc i c (by
      rw [List.getElem?_take] at hi
      split at hi
      · exact hi
      · cases hi)⟩⟩
theorem few_len (l : List Cl) : (l.take 40).length ≤ 40 := by rw [List.length_take]; omega
theorem few_wf {l : List Cl} (h : ∀ y ∈ l, WfC y) : ∀ y ∈ l.take 40, WfC y := fun y hy => h y (List.mem_of_mem_take hy)
set_option maxRecDepth 20000 in
set_option maxHeartbeats 4000000 in
theorem hagrees_any (B : Option Addr) (m cm : Nat) (o : List Int) (A : Option Addr) (n c : Nat) (l : List Cl) (w : World) (hmc : m ≤ cm) (hcm : cm ≤ 9223372036854775807) (ho : Is w B m o) (hwo : ∀ x ∈ o, (Lit.int .i64 x).wf = true) (hnc : n ≤ c) (hc : c ≤ 9223372036854775807) (hl : Cs w A n l) (hw : ∀ y ∈ l, WfC y) :
    Calls Try.prog 4 #[.slice B m cm, .slice A n c] w fun e w' => e = .returned (.bool true) ∧ Nw w w' := by
  obtain ⟨m', hm'⟩ : ∃ m', m' = min m 60 := ⟨_, rfl⟩
  obtain ⟨o', ho'⟩ : ∃ o', o' = o.take m' := ⟨_, rfl⟩
  have hO : Is w B m' o' := by rw [ho']; exact ho.take (by omega)
  have hwO : ∀ x ∈ o', (Lit.int .i64 x).wf = true := fun x hx => hwo x (List.mem_of_mem_take (ho' ▸ hx))
  obtain ⟨L, hL⟩ : ∃ L, l.take 40 = L := ⟨_, rfl⟩
  obtain ⟨n1, hn1⟩ : ∃ n1, L.length = n1 := ⟨_, rfl⟩
  have hn40 : n1 ≤ 40 := by rw [← hn1, ← hL]; exact few_len l
  have hwL : ∀ y ∈ L, WfC y := by rw [← hL]; exact few_wf hw
  have hmin : min (m : Int) 60 = (m' : Int) := by omega
  have hm60 : m' ≤ 60 := by omega
  have hmcm : (m' : Int) ≤ (cm : Int) := by omega
  have HL := Lib.hid hl
  have HO := Lib.hid hO
  have HWO := Lib.hid hwO
  have HWL := Lib.hid hwL
  have HN1 := Lib.hid hn1
  have HL1 := Lib.hid hL
  have hol := Lib.hid hO.1
  clear hl ho hw hwo hO hwO hwL hm' ho' hn1 hL
  go_enter Try.func4, Try.ntmps4
  go_wp2_with fail
  refine (few_cs _ hnc hc HL1.out HN1.out HL.out).mono ?_
  rintro e w' ⟨A1, c1, rfl, h1, dW, rfl⟩
  go_wp2_with fail
  refine (copyInts_any _ m' _ o' _ (by omega) (HO.out.nw ((by repeat (first | exact Xt.Nw.refl _ | refine Xt.Nw.drew ?_ | refine Xt.Nw.drewN ?_ _ | refine Xt.Nw.alloc ?_ _ | refine Xt.Nw.joined ?_ | refine Xt.Nw.drewd ?_ | refine Xt.Nw.drewdN ?_ | refine Xt.Nw.ext ?_ | refine Xt.Nw.ext_some ?_ (by assumption) | refine Xt.Nw.setCell ?_ (by simp [go_sem] <;> omega) _))))).mono ?_
  rintro e w' ⟨v, rfl, hown, dW, rfl⟩
  obtain ⟨B1, cb, rfl, hb1⟩ := hown.new hol.out
  have H1 := Lib.hid h1
  have HB := Lib.hid hb1
  clear h1 hb1 hown
  go_wp2_with fail
  refine (agrees_any _ m' _ o' _ n1 _ L _ (by omega) (HB.out.nw ((by repeat (first | exact Xt.Nw.refl _ | refine Xt.Nw.drew ?_ | refine Xt.Nw.drewN ?_ _ | refine Xt.Nw.alloc ?_ _ | refine Xt.Nw.joined ?_ | refine Xt.Nw.drewd ?_ | refine Xt.Nw.drewdN ?_ | refine Xt.Nw.ext ?_ | refine Xt.Nw.ext_some ?_ (by assumption) | refine Xt.Nw.setCell ?_ (by simp [go_sem] <;> omega) _)))) HWO.out (by omega) H1.out.2.1 H1.out.2.2.1 (H1.out.1.nw ((by repeat (first | exact Xt.Nw.refl _ | refine Xt.Nw.drew ?_ | refine Xt.Nw.drewN ?_ _ | refine Xt.Nw.alloc ?_ _ | refine Xt.Nw.joined ?_ | refine Xt.Nw.drewd ?_ | refine Xt.Nw.drewdN ?_ | refine Xt.Nw.ext ?_ | refine Xt.Nw.ext_some ?_ (by assumption) | refine Xt.Nw.setCell ?_ (by simp [go_sem] <;> omega) _)))) HWL.out).mono ?_
  rintro e w' ⟨rfl, dW, rfl⟩
  go_wp2_with fail
  refine (few_cs _ hnc hc HL1.out HN1.out (HL.out.nw ((by repeat (first | exact Xt.Nw.refl _ | refine Xt.Nw.drew ?_ | refine Xt.Nw.drewN ?_ _ | refine Xt.Nw.alloc ?_ _ | refine Xt.Nw.joined ?_ | refine Xt.Nw.drewd ?_ | refine Xt.Nw.drewdN ?_ | refine Xt.Nw.ext ?_ | refine Xt.Nw.ext_some ?_ (by assumption) | refine Xt.Nw.setCell ?_ (by simp [go_sem] <;> omega) _))))).mono ?_
  rintro e w' ⟨A2, c2, rfl, h2, dW, rfl⟩
  have H2 := Lib.hid h2
  clear h2
  go_wp2_with fail
  refine (ragrees_any _ m' _ o' _ n1 _ L _ (by omega) (HO.out.nw ((by repeat (first | exact Xt.Nw.refl _ | refine Xt.Nw.drew ?_ | refine Xt.Nw.drewN ?_ _ | refine Xt.Nw.alloc ?_ _ | refine Xt.Nw.joined ?_ | refine Xt.Nw.drewd ?_ | refine Xt.Nw.drewdN ?_ | refine Xt.Nw.ext ?_ | refine Xt.Nw.ext_some ?_ (by assumption) | refine Xt.Nw.setCell ?_ (by simp [go_sem] <;> omega) _)))) (by omega) (H2.out.1.nw ((by repeat (first | exact Xt.Nw.refl _ | refine Xt.Nw.drew ?_ | refine Xt.Nw.drewN ?_ _ | refine Xt.Nw.alloc ?_ _ | refine Xt.Nw.joined ?_ | refine Xt.Nw.drewd ?_ | refine Xt.Nw.drewdN ?_ | refine Xt.Nw.ext ?_ | refine Xt.Nw.ext_some ?_ (by assumption) | refine Xt.Nw.setCell ?_ (by simp [go_sem] <;> omega) _)))) HWL.out).mono ?_
  rintro e w' ⟨rfl, dW, rfl⟩
  go_wp2_with fail
  refine (few_cs _ hnc hc HL1.out HN1.out (HL.out.nw ((by repeat (first | exact Xt.Nw.refl _ | refine Xt.Nw.drew ?_ | refine Xt.Nw.drewN ?_ _ | refine Xt.Nw.alloc ?_ _ | refine Xt.Nw.joined ?_ | refine Xt.Nw.drewd ?_ | refine Xt.Nw.drewdN ?_ | refine Xt.Nw.ext ?_ | refine Xt.Nw.ext_some ?_ (by assumption) | refine Xt.Nw.setCell ?_ (by simp [go_sem] <;> omega) _))))).mono ?_
  rintro e w' ⟨A3, c3, rfl, h3, dW, rfl⟩
  have H3 := Lib.hid h3
  clear h3
  go_wp2_with fail
  refine (equalCalls_any _ _ n1 n1 _ _ L L _ (by omega) (by omega) (H1.out.1.nw ((by repeat (first | exact Xt.Nw.refl _ | refine Xt.Nw.drew ?_ | refine Xt.Nw.drewN ?_ _ | refine Xt.Nw.alloc ?_ _ | refine Xt.Nw.joined ?_ | refine Xt.Nw.drewd ?_ | refine Xt.Nw.drewdN ?_ | refine Xt.Nw.ext ?_ | refine Xt.Nw.ext_some ?_ (by assumption) | refine Xt.Nw.setCell ?_ (by simp [go_sem] <;> omega) _)))) (H3.out.1.nw ((by repeat (first | exact Xt.Nw.refl _ | refine Xt.Nw.drew ?_ | refine Xt.Nw.drewN ?_ _ | refine Xt.Nw.alloc ?_ _ | refine Xt.Nw.joined ?_ | refine Xt.Nw.drewd ?_ | refine Xt.Nw.drewdN ?_ | refine Xt.Nw.ext ?_ | refine Xt.Nw.ext_some ?_ (by assumption) | refine Xt.Nw.setCell ?_ (by simp [go_sem] <;> omega) _))))).mono ?_
  rintro e w' ⟨rfl, dW, rfl⟩
  go_wp2_with fail
  refine (equalInts_any _ _ m' m' _ _ o' o' _ (by omega) (by omega) (HB.out.nw ((by repeat (first | exact Xt.Nw.refl _ | refine Xt.Nw.drew ?_ | refine Xt.Nw.drewN ?_ _ | refine Xt.Nw.alloc ?_ _ | refine Xt.Nw.joined ?_ | refine Xt.Nw.drewd ?_ | refine Xt.Nw.drewdN ?_ | refine Xt.Nw.ext ?_ | refine Xt.Nw.ext_some ?_ (by assumption) | refine Xt.Nw.setCell ?_ (by simp [go_sem] <;> omega) _)))) (HO.out.nw ((by repeat (first | exact Xt.Nw.refl _ | refine Xt.Nw.drew ?_ | refine Xt.Nw.drewN ?_ _ | refine Xt.Nw.alloc ?_ _ | refine Xt.Nw.joined ?_ | refine Xt.Nw.drewd ?_ | refine Xt.Nw.drewdN ?_ | refine Xt.Nw.ext ?_ | refine Xt.Nw.ext_some ?_ (by assumption) | refine Xt.Nw.setCell ?_ (by simp [go_sem] <;> omega) _))))).mono ?_
  rintro e w' ⟨rfl, dW, rfl⟩
  go_wp2_with fail
  refine (awake_any _).mono ?_
  rintro e w' ⟨rfl, dW, rfl⟩
  go_wp2
  go_ret
  exact ⟨rfl, (by repeat (first | exact Xt.Nw.refl _ | refine Xt.Nw.drew ?_ | refine Xt.Nw.drewN ?_ _ | refine Xt.Nw.alloc ?_ _ | refine Xt.Nw.joined ?_ | refine Xt.Nw.drewd ?_ | refine Xt.Nw.drewdN ?_ | refine Xt.Nw.ext ?_ | refine Xt.Nw.ext_some ?_ (by assumption) | refine Xt.Nw.setCell ?_ (by simp [go_sem] <;> omega) _))⟩
set_option maxRecDepth 20000 in
set_option maxHeartbeats 4000000 in
theorem hpairs_any (a b : Cl) (w : World) : Calls Try.prog 28 #[cv a, cv b] w fun e w' => e = .returned (.bool true) ∧ Nw w w' := by
  go_enter Try.func28, Try.ntmps28
  go_upto_region 1 with (fail)
  obtain ⟨W2, hW2⟩ : ∃ W2, W2 = (w.alloc (.cells #[.int .i64 a.th, .int .i64 a.ix, .int .u8 a.kd, .int .u64 a.ka, .int .u64 a.kb, .int .u64 a.kc, .int .u64 a.kx, .int .u64 a.ky, .int .u64 a.kz, .int .i64 a.inv, .int .i64 a.took, .int .i64 a.ans, .int .i64 a.st, .int .i64 a.re, .bool a.rf, .int .u64 a.rk, .int .u64 a.rv, .int .i64 a.rc] 47)).alloc (.cells #[.int .i64 b.th, .int .i64 b.ix, .int .u8 b.kd, .int .u64 b.ka, .int .u64 b.kb, .int .u64 b.kc, .int .u64 b.kx, .int .u64 b.ky, .int .u64 b.kz, .int .i64 b.inv, .int .i64 b.took, .int .i64 b.ans, .int .i64 b.st, .int .i64 b.re, .bool b.rf, .int .u64 b.rk, .int .u64 b.rv, .int .i64 b.rc] 47) := ⟨_, rfl⟩
  rw [← hW2]
  haveI : CallAt W2 w.heap.size 0 a := by rw [hW2]; exact ⟨(boxed w a _).alloc (by simp) _, by simp only [World.size_alloc]; omega⟩
  haveI : CallAt W2 (w.heap.size + 1) 0 b := by
    rw [hW2]
    have h := boxed (w.alloc (.cells #[.int .i64 a.th, .int .i64 a.ix, .int .u8 a.kd, .int .u64 a.ka, .int .u64 a.kb, .int .u64 a.kc, .int .u64 a.kx, .int .u64 a.ky, .int .u64 a.kz, .int .i64 a.inv, .int .i64 a.took, .int .i64 a.ans, .int .i64 a.st, .int .i64 a.re, .bool a.rf, .int .u64 a.rk, .int .u64 a.rv, .int .i64 a.rc] 47)) b 47
    rw [World.size_alloc] at h
    exact ⟨h, by simp only [World.size_alloc]; omega⟩
  have hN2 : Nw w W2 := by rw [hW2]; exact (by repeat (first | exact Xt.Nw.refl _ | refine Xt.Nw.drew ?_ | refine Xt.Nw.drewN ?_ _ | refine Xt.Nw.alloc ?_ _ | refine Xt.Nw.joined ?_ | refine Xt.Nw.drewd ?_ | refine Xt.Nw.drewdN ?_ | refine Xt.Nw.ext ?_ | refine Xt.Nw.ext_some ?_ (by assumption) | refine Xt.Nw.setCell ?_ (by simp [go_sem] <;> omega) _))
  have HN2 := Lib.hid hN2
  clear hW2 hN2
  (refine wp_region_nw (by kernel_rfl) (by kernel_rfl) ?_; (repeat (go_big_quiet_step (first | (go_at_call 30; exact quiet_of (before_any _ _ _)) | (go_at_call 44; exact quiet_of (rbefore_any _ _ _)) | (go_at_call 23; exact quiet_of (awake_any _))))); refine wpQuiet_nil ?_; intro _ hreg; obtain ⟨dW, rfl⟩ : Nw _ _ := hreg)
  go_wp2
  go_ret
  exact ⟨rfl, HN2.out.trans ((by repeat (first | exact Xt.Nw.refl _ | refine Xt.Nw.drew ?_ | refine Xt.Nw.drewN ?_ _ | refine Xt.Nw.alloc ?_ _ | refine Xt.Nw.joined ?_ | refine Xt.Nw.drewd ?_ | refine Xt.Nw.drewdN ?_ | refine Xt.Nw.ext ?_ | refine Xt.Nw.ext_some ?_ (by assumption) | refine Xt.Nw.setCell ?_ (by simp [go_sem] <;> omega) _)))⟩
end Go.Proofs.Ytjpgechcfkhoaaa
