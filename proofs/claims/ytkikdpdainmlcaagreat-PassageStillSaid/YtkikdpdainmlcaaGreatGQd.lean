import Derived.Test.YtkikdpdainmlcaaGreatGQb
import Derived.Laws.EntriesVeiled
set_option linter.unusedVariables false
set_option linter.unusedSimpArgs false
set_option linter.unnecessarySimpa false
namespace Go.Proofs.YtkikdpdainmlcaaGreat
open Go.RowKit Go.Xt
/-! perform at any operation. -/
structure Rs where
  err : Int
  fd : Bool
  key : Int
  val : Int
  cnt : Int
deriving DecidableEq
def resV (r : Rs) : Value := res5 r.err r.fd r.key r.val r.cnt
def setRes (W : World) (b : Nat) (r : Rs) : World := ((((W.setCell ⟨b, 0, none⟩ (.int .i64 r.err)).setCell ⟨b, 1, none⟩ (.bool r.fd)).setCell ⟨b, 2, none⟩ (.int .u64 r.key)).setCell ⟨b, 3, none⟩ (.int .u64 r.val)).setCell ⟨b, 4, none⟩ (.int .i64 r.cnt)
theorem setRes_chg (W : World) (b : Nat) (r : Rs) : Chg [b] W (setRes W b r) := ((((Chg.set1 W b 0 _).set2 1 _).set2 2 _).set2 3 _).set2 4 _
structure Fr (w W : World) (o : Ox) : Prop where
  hs : w.heap.size + 1 < W.heap.size
  q0 : W.cell? ⟨w.heap.size, 0, none⟩ = some (.int .u8 o.k)
  q1 : W.cell? ⟨w.heap.size, 1, none⟩ = some (.int .u64 o.key)
  q2 : W.cell? ⟨w.heap.size, 2, none⟩ = some (.int .u64 o.hi)
  q3 : W.cell? ⟨w.heap.size, 3, none⟩ = some (.int .u64 o.val)
  q4 : W.cell? ⟨w.heap.size, 4, none⟩ = some (.int .u64 o.old)
  q5 : W.cell? ⟨w.heap.size, 5, none⟩ = some (.int .u64 o.by_)
  q6 : W.cell? ⟨w.heap.size, 6, none⟩ = some (.int .u64 o.draw)
  r0 : W.cell? ⟨w.heap.size + 1, 0, none⟩ = some (.int .i64 0)
  r1 : W.cell? ⟨w.heap.size + 1, 1, none⟩ = some (.bool false)
  r2 : W.cell? ⟨w.heap.size + 1, 2, none⟩ = some (.int .u64 0)
  r3 : W.cell? ⟨w.heap.size + 1, 3, none⟩ = some (.int .u64 0)
  r4 : W.cell? ⟨w.heap.size + 1, 4, none⟩ = some (.int .i64 0)
  z0 : W.frozen? ⟨w.heap.size + 1, 0, none⟩ = false
  z1 : W.frozen? ⟨w.heap.size + 1, 1, none⟩ = false
  z2 : W.frozen? ⟨w.heap.size + 1, 2, none⟩ = false
  z3 : W.frozen? ⟨w.heap.size + 1, 3, none⟩ = false
  z4 : W.frozen? ⟨w.heap.size + 1, 4, none⟩ = false
theorem Fr.made (w : World) (k a b c d e f : Int) : Fr w ((w.alloc (.cells #[.int .u8 k, .int .u64 a, .int .u64 b, .int .u64 c, .int .u64 d, .int .u64 e, .int .u64 f] 41)).alloc (.cells #[.int .i64 0, .bool false, .int .u64 0, .int .u64 0, .int .i64 0] 43)) ⟨k, a, b, c, d, e, f⟩ := by
  constructor <;> simp [go_sem]
theorem Fr.chg {w W W' : World} {o : Ox} {X : List Nat} (h : Fr w W o) (hc : Chg X W W') (h1 : w.heap.size ∉ X) (h2 : w.heap.size + 1 ∉ X) : Fr w W' o :=
  ⟨Nat.lt_of_lt_of_le h.hs hc.size, hc.cell h.q0 h1, hc.cell h.q1 h1, hc.cell h.q2 h1, hc.cell h.q3 h1, hc.cell h.q4 h1, hc.cell h.q5 h1, hc.cell h.q6 h1,
    hc.cell h.r0 h2, hc.cell h.r1 h2, hc.cell h.r2 h2, hc.cell h.r3 h2, hc.cell h.r4 h2,
    (hc.frozen h.hs h2).trans h.z0, (hc.frozen h.hs h2).trans h.z1, (hc.frozen h.hs h2).trans h.z2, (hc.frozen h.hs h2).trans h.z3, (hc.frozen h.hs h2).trans h.z4⟩
theorem Fr.nw {w W W' : World} {o : Ox} (h : Fr w W o) (hn : Nw W W') : Fr w W' o := h.chg (Chg.of_nw hn : Chg [] W W') (by simp) (by simp)
theorem Fr.foot {w W W' : World} {o : Ox} {p : Pl} {s : Md} (h : Fr w W o) (hp : MAt w p s) (hc : Chg p.foot W W') : Fr w W' o :=
  h.chg hc (fun e => by have := hp.lt e; omega) (fun e => by have := hp.lt e; omega)
theorem MUp.res {w W W' : World} {p p' : Pl} {s0 s : Md} (hn : Nw w W) {b : Nat} (hb : w.heap.size ≤ b) (hb2 : b < W.heap.size) (hp : MAt w p s0) (h : MUp W p s p' W') (r : Rs) : MUp w p s p' (setRes W' b r) := by
  refine (h.after hn).new (setRes_chg W' b r) (fun g hg => by simp at hg; omega) (fun g hg hx => ?_)
  simp at hx; subst hx
  rcases h.mv _ hg with h1 | h1
  · have := hp.lt h1; omega
  · omega
set_option maxRecDepth 20000 in
set_option maxHeartbeats 8000000 in
theorem perform_any (w : World) (p : Pl) (s : Md) (h : MAt w p s) (k : Nat) (hk : k < 16) (F : Nat) (hF : (#[.nilFunc, .func (.func 119) #[] #[], .func (.func 120) #[] #[], .func (.func 121) #[] #[], .func (.func 122) #[] #[], .func (.func 123) #[] #[], .func (.func 124) #[] #[], .func (.func 125) #[] #[], .func (.func 126) #[] #[], .func (.func 127) #[] #[], .func (.func 128) #[] #[], .func (.func 129) #[] #[], .func (.func 130) #[] #[], .func (.func 131) #[] #[], .func (.func 132) #[] #[], .func (.func 133) #[] #[]] : Array Value)[k]? = some (.func (.func F) #[] #[])) (hcf : ∀ (args : Array Value) (W : World), (callFunc F args).run Tryz.prog W = .ok (.enter F args) W) (t a b c d e f : Int) (r : Rs) (s' : Md)
    (hm : ∀ W, Nw w W → Calls Tryz.prog F #[.pointer (some ⟨p.gm, 0, none⟩), .int .i64 t, op7 k a b c d e f] W fun e w' => e = .returned (resV r) ∧ ∃ p', MUp W p s' p' w') :
    Calls Tryz.prog 103 #[.pointer (some ⟨p.gm, 0, none⟩), .int .i64 t, op7 k a b c d e f] w fun e w' => e = .returned (resV r) ∧ ∃ p', MUp w p s' p' w' := by
  have im := h.im
  have H := Lib.hid h
  have HS := Lib.hid hm
  clear hm h
  obtain ⟨gm, hgm⟩ : ∃ g, g = p.gm := ⟨_, rfl⟩
  rw [← hgm] at im HS ⊢
  haveI : In gm w := ⟨im⟩
  obtain ⟨er, fd, ke, va, cn⟩ := r
  unfold resV at HS ⊢
  simp only at HS ⊢
  clear hgm im
  obtain ⟨W3, hW3⟩ : ∃ W3, W3 = ((w.alloc (.cells #[.int .u8 k, .int .u64 a, .int .u64 b, .int .u64 c, .int .u64 d, .int .u64 e, .int .u64 f] 41)).alloc (.cells #[.int .i64 0, .bool false, .int .u64 0, .int .u64 0, .int .i64 0] 43)).alloc (.cells #[.nilFunc, .func (.func 119) #[] #[], .func (.func 120) #[] #[], .func (.func 121) #[] #[], .func (.func 122) #[] #[], .func (.func 123) #[] #[], .func (.func 124) #[] #[], .func (.func 125) #[] #[], .func (.func 126) #[] #[], .func (.func 127) #[] #[], .func (.func 128) #[] #[], .func (.func 129) #[] #[], .func (.func 130) #[] #[], .func (.func 131) #[] #[], .func (.func 132) #[] #[], .func (.func 133) #[] #[]] 191) := ⟨_, rfl⟩
  have hn3 : Nw w W3 := by rw [hW3]; exact nwa
  have hf3 : Fr w W3 ⟨k, a, b, c, d, e, f⟩ := by rw [hW3]; exact (Fr.made w k a b c d e f).nw nwa
  have qf : W3.cell? ⟨w.heap.size + 1 + 1, k, none⟩ = some (.func (.func F) #[] #[]) := by
    rw [hW3, ← hF]
    unfold World.cell?
    have e1 : w.heap.size + 1 + 1 = ((w.alloc (.cells #[.int .u8 k, .int .u64 a, .int .u64 b, .int .u64 c, .int .u64 d, .int .u64 e, .int .u64 f] 41)).alloc (.cells #[.int .i64 0, .bool false, .int .u64 0, .int .u64 0, .int .i64 0] 43)).heap.size := by simp
    simp only [e1, heap_alloc_new]
    rfl
  obtain ⟨hs3, q0, q1, q2, q3, q4, q5, q6, -⟩ := hf3
  have HF3 := Lib.hid (show Fr w W3 ⟨k, a, b, c, d, e, f⟩ by rw [hW3]; exact (Fr.made w k a b c d e f).nw nwa)
  have HN3 := Lib.hid hn3
  have HW3 := Lib.hid hW3
  have HS3 := Lib.hid hs3
  have k0 : (0 : Int) ≤ (k : Int) := by omega
  have k1 : (k : Int) < 16 := by omega
  have HCF := Lib.hid hcf
  clear hn3 hW3 hs3 hF hcf
  simp only at q0 q1 q2 q3 q4 q5 q6
  go_enter Tryz.func103, Tryz.ntmps103
  go_upto_region 2 with (fail)
  rw [← HW3.out]
  go_still_tail 7, (by kernel_rfl)
  change wpList _ _ _ _ _ W3.drew
  go_wp2_with fail
  rw [HCF.out, Oper.upon_enter]
  refine (HS.out W3.drew (Nw.drew HN3.out)).mono ?_
  rintro e W4 ⟨rfl, p', hu⟩
  obtain ⟨hs4, -, -, -, -, -, -, -, r0, r1, r2, r3, r4, z0, z1, z2, z3, z4⟩ := (HF3.out.nw (Nw.drew (Nw.refl W3))).foot H.out hu.chg
  have HU := Lib.hid hu
  clear hu hs4
  go_wp2
  refine bodyPost_ret (v := res5 er fd ke va cn) ?_ rfl ⟨rfl, p', MUp.res (Nw.drew HN3.out) (Nat.le_succ _) HS3.out H.out HU.out ⟨er, fd, ke, va, cn⟩⟩
  simp [results, Tryz.results103, go_sem, r0, r1, r2, r3, r4]
theorem perform_k1 (w : World) (p : Pl) (s : Md) (h : MAt w p s) (t a b c d e f : Int) (r : Rs) (s' : Md)
    (hm : ∀ W, Nw w W → Calls Tryz.prog 119 #[.pointer (some ⟨p.gm, 0, none⟩), .int .i64 t, op7 1 a b c d e f] W fun e w' => e = .returned (resV r) ∧ ∃ p', MUp W p s' p' w') :
    Calls Tryz.prog 103 #[.pointer (some ⟨p.gm, 0, none⟩), .int .i64 t, op7 1 a b c d e f] w fun e w' => e = .returned (resV r) ∧ ∃ p', MUp w p s' p' w' :=
  perform_any w p s h 1 (by omega) _ rfl (fun args W => by go_simp) t a b c d e f r s' hm
theorem perform_k2 (w : World) (p : Pl) (s : Md) (h : MAt w p s) (t a b c d e f : Int) (r : Rs) (s' : Md)
    (hm : ∀ W, Nw w W → Calls Tryz.prog 120 #[.pointer (some ⟨p.gm, 0, none⟩), .int .i64 t, op7 2 a b c d e f] W fun e w' => e = .returned (resV r) ∧ ∃ p', MUp W p s' p' w') :
    Calls Tryz.prog 103 #[.pointer (some ⟨p.gm, 0, none⟩), .int .i64 t, op7 2 a b c d e f] w fun e w' => e = .returned (resV r) ∧ ∃ p', MUp w p s' p' w' :=
  perform_any w p s h 2 (by omega) _ rfl (fun args W => by go_simp) t a b c d e f r s' hm
theorem perform_k3 (w : World) (p : Pl) (s : Md) (h : MAt w p s) (t a b c d e f : Int) (r : Rs) (s' : Md)
    (hm : ∀ W, Nw w W → Calls Tryz.prog 121 #[.pointer (some ⟨p.gm, 0, none⟩), .int .i64 t, op7 3 a b c d e f] W fun e w' => e = .returned (resV r) ∧ ∃ p', MUp W p s' p' w') :
    Calls Tryz.prog 103 #[.pointer (some ⟨p.gm, 0, none⟩), .int .i64 t, op7 3 a b c d e f] w fun e w' => e = .returned (resV r) ∧ ∃ p', MUp w p s' p' w' :=
  perform_any w p s h 3 (by omega) _ rfl (fun args W => by go_simp) t a b c d e f r s' hm
theorem perform_k4 (w : World) (p : Pl) (s : Md) (h : MAt w p s) (t a b c d e f : Int) (r : Rs) (s' : Md)
    (hm : ∀ W, Nw w W → Calls Tryz.prog 122 #[.pointer (some ⟨p.gm, 0, none⟩), .int .i64 t, op7 4 a b c d e f] W fun e w' => e = .returned (resV r) ∧ ∃ p', MUp W p s' p' w') :
    Calls Tryz.prog 103 #[.pointer (some ⟨p.gm, 0, none⟩), .int .i64 t, op7 4 a b c d e f] w fun e w' => e = .returned (resV r) ∧ ∃ p', MUp w p s' p' w' :=
  perform_any w p s h 4 (by omega) _ rfl (fun args W => by go_simp) t a b c d e f r s' hm
theorem perform_k5 (w : World) (p : Pl) (s : Md) (h : MAt w p s) (t a b c d e f : Int) (r : Rs) (s' : Md)
    (hm : ∀ W, Nw w W → Calls Tryz.prog 123 #[.pointer (some ⟨p.gm, 0, none⟩), .int .i64 t, op7 5 a b c d e f] W fun e w' => e = .returned (resV r) ∧ ∃ p', MUp W p s' p' w') :
    Calls Tryz.prog 103 #[.pointer (some ⟨p.gm, 0, none⟩), .int .i64 t, op7 5 a b c d e f] w fun e w' => e = .returned (resV r) ∧ ∃ p', MUp w p s' p' w' :=
  perform_any w p s h 5 (by omega) _ rfl (fun args W => by go_simp) t a b c d e f r s' hm
theorem perform_k6 (w : World) (p : Pl) (s : Md) (h : MAt w p s) (t a b c d e f : Int) (r : Rs) (s' : Md)
    (hm : ∀ W, Nw w W → Calls Tryz.prog 124 #[.pointer (some ⟨p.gm, 0, none⟩), .int .i64 t, op7 6 a b c d e f] W fun e w' => e = .returned (resV r) ∧ ∃ p', MUp W p s' p' w') :
    Calls Tryz.prog 103 #[.pointer (some ⟨p.gm, 0, none⟩), .int .i64 t, op7 6 a b c d e f] w fun e w' => e = .returned (resV r) ∧ ∃ p', MUp w p s' p' w' :=
  perform_any w p s h 6 (by omega) _ rfl (fun args W => by go_simp) t a b c d e f r s' hm
theorem perform_k7 (w : World) (p : Pl) (s : Md) (h : MAt w p s) (t a b c d e f : Int) (r : Rs) (s' : Md)
    (hm : ∀ W, Nw w W → Calls Tryz.prog 125 #[.pointer (some ⟨p.gm, 0, none⟩), .int .i64 t, op7 7 a b c d e f] W fun e w' => e = .returned (resV r) ∧ ∃ p', MUp W p s' p' w') :
    Calls Tryz.prog 103 #[.pointer (some ⟨p.gm, 0, none⟩), .int .i64 t, op7 7 a b c d e f] w fun e w' => e = .returned (resV r) ∧ ∃ p', MUp w p s' p' w' :=
  perform_any w p s h 7 (by omega) _ rfl (fun args W => by go_simp) t a b c d e f r s' hm
theorem perform_k8 (w : World) (p : Pl) (s : Md) (h : MAt w p s) (t a b c d e f : Int) (r : Rs) (s' : Md)
    (hm : ∀ W, Nw w W → Calls Tryz.prog 126 #[.pointer (some ⟨p.gm, 0, none⟩), .int .i64 t, op7 8 a b c d e f] W fun e w' => e = .returned (resV r) ∧ ∃ p', MUp W p s' p' w') :
    Calls Tryz.prog 103 #[.pointer (some ⟨p.gm, 0, none⟩), .int .i64 t, op7 8 a b c d e f] w fun e w' => e = .returned (resV r) ∧ ∃ p', MUp w p s' p' w' :=
  perform_any w p s h 8 (by omega) _ rfl (fun args W => by go_simp) t a b c d e f r s' hm
theorem perform_k9 (w : World) (p : Pl) (s : Md) (h : MAt w p s) (t a b c d e f : Int) (r : Rs) (s' : Md)
    (hm : ∀ W, Nw w W → Calls Tryz.prog 127 #[.pointer (some ⟨p.gm, 0, none⟩), .int .i64 t, op7 9 a b c d e f] W fun e w' => e = .returned (resV r) ∧ ∃ p', MUp W p s' p' w') :
    Calls Tryz.prog 103 #[.pointer (some ⟨p.gm, 0, none⟩), .int .i64 t, op7 9 a b c d e f] w fun e w' => e = .returned (resV r) ∧ ∃ p', MUp w p s' p' w' :=
  perform_any w p s h 9 (by omega) _ rfl (fun args W => by go_simp) t a b c d e f r s' hm
theorem perform_k10 (w : World) (p : Pl) (s : Md) (h : MAt w p s) (t a b c d e f : Int) (r : Rs) (s' : Md)
    (hm : ∀ W, Nw w W → Calls Tryz.prog 128 #[.pointer (some ⟨p.gm, 0, none⟩), .int .i64 t, op7 10 a b c d e f] W fun e w' => e = .returned (resV r) ∧ ∃ p', MUp W p s' p' w') :
    Calls Tryz.prog 103 #[.pointer (some ⟨p.gm, 0, none⟩), .int .i64 t, op7 10 a b c d e f] w fun e w' => e = .returned (resV r) ∧ ∃ p', MUp w p s' p' w' :=
  perform_any w p s h 10 (by omega) _ rfl (fun args W => by go_simp) t a b c d e f r s' hm
theorem perform_k11 (w : World) (p : Pl) (s : Md) (h : MAt w p s) (t a b c d e f : Int) (r : Rs) (s' : Md)
    (hm : ∀ W, Nw w W → Calls Tryz.prog 129 #[.pointer (some ⟨p.gm, 0, none⟩), .int .i64 t, op7 11 a b c d e f] W fun e w' => e = .returned (resV r) ∧ ∃ p', MUp W p s' p' w') :
    Calls Tryz.prog 103 #[.pointer (some ⟨p.gm, 0, none⟩), .int .i64 t, op7 11 a b c d e f] w fun e w' => e = .returned (resV r) ∧ ∃ p', MUp w p s' p' w' :=
  perform_any w p s h 11 (by omega) _ rfl (fun args W => by go_simp) t a b c d e f r s' hm
theorem perform_k12 (w : World) (p : Pl) (s : Md) (h : MAt w p s) (t a b c d e f : Int) (r : Rs) (s' : Md)
    (hm : ∀ W, Nw w W → Calls Tryz.prog 130 #[.pointer (some ⟨p.gm, 0, none⟩), .int .i64 t, op7 12 a b c d e f] W fun e w' => e = .returned (resV r) ∧ ∃ p', MUp W p s' p' w') :
    Calls Tryz.prog 103 #[.pointer (some ⟨p.gm, 0, none⟩), .int .i64 t, op7 12 a b c d e f] w fun e w' => e = .returned (resV r) ∧ ∃ p', MUp w p s' p' w' :=
  perform_any w p s h 12 (by omega) _ rfl (fun args W => by go_simp) t a b c d e f r s' hm
theorem perform_k13 (w : World) (p : Pl) (s : Md) (h : MAt w p s) (t a b c d e f : Int) (r : Rs) (s' : Md)
    (hm : ∀ W, Nw w W → Calls Tryz.prog 131 #[.pointer (some ⟨p.gm, 0, none⟩), .int .i64 t, op7 13 a b c d e f] W fun e w' => e = .returned (resV r) ∧ ∃ p', MUp W p s' p' w') :
    Calls Tryz.prog 103 #[.pointer (some ⟨p.gm, 0, none⟩), .int .i64 t, op7 13 a b c d e f] w fun e w' => e = .returned (resV r) ∧ ∃ p', MUp w p s' p' w' :=
  perform_any w p s h 13 (by omega) _ rfl (fun args W => by go_simp) t a b c d e f r s' hm
theorem perform_k14 (w : World) (p : Pl) (s : Md) (h : MAt w p s) (t a b c d e f : Int) (r : Rs) (s' : Md)
    (hm : ∀ W, Nw w W → Calls Tryz.prog 132 #[.pointer (some ⟨p.gm, 0, none⟩), .int .i64 t, op7 14 a b c d e f] W fun e w' => e = .returned (resV r) ∧ ∃ p', MUp W p s' p' w') :
    Calls Tryz.prog 103 #[.pointer (some ⟨p.gm, 0, none⟩), .int .i64 t, op7 14 a b c d e f] w fun e w' => e = .returned (resV r) ∧ ∃ p', MUp w p s' p' w' :=
  perform_any w p s h 14 (by omega) _ rfl (fun args W => by go_simp) t a b c d e f r s' hm
theorem perform_k15 (w : World) (p : Pl) (s : Md) (h : MAt w p s) (t a b c d e f : Int) (r : Rs) (s' : Md)
    (hm : ∀ W, Nw w W → Calls Tryz.prog 133 #[.pointer (some ⟨p.gm, 0, none⟩), .int .i64 t, op7 15 a b c d e f] W fun e w' => e = .returned (resV r) ∧ ∃ p', MUp W p s' p' w') :
    Calls Tryz.prog 103 #[.pointer (some ⟨p.gm, 0, none⟩), .int .i64 t, op7 15 a b c d e f] w fun e w' => e = .returned (resV r) ∧ ∃ p', MUp w p s' p' w' :=
  perform_any w p s h 15 (by omega) _ rfl (fun args W => by go_simp) t a b c d e f r s' hm
end Go.Proofs.YtkikdpdainmlcaaGreat
namespace Go.Proofs.YtkikdpdainmlcaaGreat
open Go.RowKit Go.Xt
/-! The iterators: end, from, after; keys. -/
def Th.fin (x : Th) : Th := { x with mo := false, lo := 0, hi := 0 }
def Th.from_ (x : Th) (k : Int) : Th := if x.mo = true ∧ k ≤ x.hi then { x with lo := max x.lo k } else x.fin
def Th.after (x : Th) (k : Int) : Th := if k = 18446744073709551615 then x.fin else x.from_ (k + 1)
theorem keys_any (k a b c d e f : Int) (w : World) : Calls Tryz.prog 148 #[op7 k a b c d e f] w fun e w' => e = .returned (spV a b) ∧ Nw w w' := by
  unfold spV
  go_enter Tryz.func148, Tryz.ntmps148
  go_wp2
  refine bodyPost_ret (v := .agg #[.int .u64 a, .int .u64 b]) ?_ rfl ⟨rfl, nwa⟩
  simp [results, Tryz.results148, go_sem, *]
theorem ThR.fin {W : World} {gt : Nat} {th : List Th} (h : ThR W gt th) {k : Nat} {x : Th} (hk : th[k]? = some x) :
    ThR (((W.setCell ⟨gt, k * 5 + 1, none⟩ (.bool false)).setCell ⟨gt, k * 5 + 2, none⟩ (.int .u64 0)).setCell ⟨gt, k * 5 + 3, none⟩ (.int .u64 0)) gt (th.set k x.fin) := by
  have h3 := ((h.mo hk false).lo (set_at hk _) 0).hi (set_at (set_at hk _) _) 0
  rw [List.set_set, List.set_set] at h3
  exact h3
set_option maxRecDepth 20000 in
set_option maxHeartbeats 4000000 in
theorem end_any (w : World) (gt : Nat) (th : List Th) (h : ThR w gt th) (k : Nat) (x : Th) (hk : th[k]? = some x) :
    Calls Tryz.prog 105 #[.pointer (some ⟨gt, k * 5, none⟩)] w fun e w' => e = .returned (.tuple #[]) ∧ ThR w' gt (th.set k x.fin) ∧ Chg [gt] w w' := by
  obtain ⟨c0, c1, c2, c3, c4⟩ := h.cells hk
  have z1 : w.frozen? ⟨gt, k * 5 + 1, none⟩ = false := ThR.frozen h _
  have z2 : w.frozen? ⟨gt, k * 5 + 2, none⟩ = false := ThR.frozen h _
  have z3 : w.frozen? ⟨gt, k * 5 + 3, none⟩ = false := ThR.frozen h _
  haveI : In gt w := ⟨h.lt hk⟩
  have HF := Lib.hid (h.fin hk)
  clear h hk
  go_enter Tryz.func105, Tryz.ntmps105
  go_wp2
  go_end0
  exact ⟨rfl, HF.out, (((Chg.set1 w gt _ _).set2 _ _).set2 _ _)⟩
set_option maxRecDepth 20000 in
set_option maxHeartbeats 4000000 in
theorem from_any (w : World) (gt : Nat) (th : List Th) (h : ThR w gt th) (k : Nat) (x : Th) (hk : th[k]? = some x) (key : Int) :
    Calls Tryz.prog 136 #[.pointer (some ⟨gt, k * 5, none⟩), .int .u64 key] w fun e w' => e = .returned (.tuple #[]) ∧ ThR w' gt (th.set k (x.from_ key)) ∧ Chg [gt] w w' := by
  obtain ⟨c0, c1, c2, c3, c4⟩ := h.cells hk
  have z2 : w.frozen? ⟨gt, k * 5 + 2, none⟩ = false := ThR.frozen h _
  haveI : In gt w := ⟨h.lt hk⟩
  have HE := Lib.hid (end_any w gt th h k x hk)
  have HL := Lib.hid (fun v => h.lo hk v)
  obtain ⟨op, mo, lo, hi, se⟩ := x
  simp only at c0 c1 c2 c3 c4
  cases mo with
  | false =>
    have e1 : Th.from_ ⟨op, false, lo, hi, se⟩ key = Th.fin ⟨op, false, lo, hi, se⟩ := by simp [Th.from_]
    rw [e1]
    clear h hk e1
    go_enter Tryz.func136, Tryz.ntmps136
    go_wp2_with fail
    refine HE.out.mono ?_
    rintro e w' ⟨rfl, h1, h2⟩
    have H1 := Lib.hid h1
    have H2 := Lib.hid h2
    clear h1 h2
    go_wp2
    refine bodyPost_ret (results_none rfl _ _ _) rfl ⟨rfl, H1.out, H2.out⟩
  | true =>
    by_cases hlt : hi < key
    · have d1 : decide (hi < key) = true := by simpa using hlt
      have e1 : Th.from_ ⟨op, true, lo, hi, se⟩ key = Th.fin ⟨op, true, lo, hi, se⟩ := by
        unfold Th.from_; rw [if_neg]; simp; omega
      rw [e1]
      clear h hk e1
      go_enter Tryz.func136, Tryz.ntmps136
      go_wp2_with fail
      refine HE.out.mono ?_
      rintro e w' ⟨rfl, h1, h2⟩
      have H1 := Lib.hid h1
      have H2 := Lib.hid h2
      clear h1 h2
      go_wp2
      refine bodyPost_ret (results_none rfl _ _ _) rfl ⟨rfl, H1.out, H2.out⟩
    · have d1 : decide (hi < key) = false := by simpa using hlt
      have e1 : Th.from_ ⟨op, true, lo, hi, se⟩ key = ⟨op, true, max lo key, hi, se⟩ := by
        unfold Th.from_; rw [if_pos]; simp; omega
      rw [e1]
      clear h hk e1
      go_enter Tryz.func136, Tryz.ntmps136
      go_wp2
      · have e2 : max lo key = key := by omega
        rw [e2]
        go_end0
        exact ⟨rfl, HL.out _, Chg.set1 w gt _ _⟩
      · have e2 : max lo key = lo := by omega
        rw [e2]
        go_end0
        exact ⟨rfl, HL.out _, Chg.set1 w gt _ _⟩
set_option maxRecDepth 20000 in
set_option maxHeartbeats 4000000 in
theorem after_any (w : World) (gt : Nat) (th : List Th) (h : ThR w gt th) (k : Nat) (x : Th) (hk : th[k]? = some x) (key : Int) (hkey : 0 ≤ key ∧ key < 18446744073709551616) :
    Calls Tryz.prog 107 #[.pointer (some ⟨gt, k * 5, none⟩), .int .u64 key] w fun e w' => e = .returned (.tuple #[]) ∧ ThR w' gt (th.set k (x.after key)) ∧ Chg [gt] w w' := by
  haveI : In gt w := ⟨h.lt hk⟩
  have HE := Lib.hid (end_any w gt th h k x hk)
  have HF := Lib.hid (from_any w gt th h k x hk (key + 1))
  by_cases hq : key = 18446744073709551615
  · have e1 : x.after key = x.fin := by unfold Th.after; rw [if_pos hq]
    rw [e1]
    subst hq
    clear h hk e1
    go_enter Tryz.func107, Tryz.ntmps107
    go_wp2_with fail
    refine HE.out.mono ?_
    rintro e w' ⟨rfl, h1, h2⟩
    have H1 := Lib.hid h1
    have H2 := Lib.hid h2
    clear h1 h2
    go_wp2
    refine bodyPost_ret (results_none rfl _ _ _) rfl ⟨rfl, H1.out, H2.out⟩
  · have e1 : x.after key = x.from_ (key + 1) := by unfold Th.after; rw [if_neg hq]
    rw [e1]
    have d1 : (key == 18446744073709551615) = false := by simpa using hq
    have w1 : IntKind.u64.wrap (key + 1) = key + 1 := by rw [IntKind.wrap_u64]; omega
    clear h hk e1 hkey
    go_enter Tryz.func107, Tryz.ntmps107
    go_wp2_with fail
    refine HF.out.mono ?_
    rintro e w' ⟨rfl, h1, h2⟩
    have H1 := Lib.hid h1
    have H2 := Lib.hid h2
    clear h1 h2
    go_wp2
    go_end0
    exact ⟨rfl, H1.out, H2.out⟩
end Go.Proofs.YtkikdpdainmlcaaGreat
