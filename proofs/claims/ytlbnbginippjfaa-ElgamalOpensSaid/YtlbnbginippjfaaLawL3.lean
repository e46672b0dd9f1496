import Derived.Test.YtlbnbginippjfaaElT
import Derived.Test.YtlbnbginippjfaaElF
import Derived.Test.YtlbnbginippjfaaElQ
import Derived.Test.YtlbnbginippjfaaEl15
import Derived.Test.YtlbnbginippjfaaElO
import Derived.Test.YtlbnbginippjfaaStep
import Derived.Test.YtlbnbginippjfaaEl14
import Derived.Deep.LoopGhost
import Derived.RegionTactic
import Derived.ChangeAlike
import Derived.BigRegion
import Derived.OpenShut
set_option linter.unusedSimpArgs false
set_option linter.unusedVariables false
namespace Go.Proofs.Ytlbnbginippjfaa
open Go.RowKit Fk
def val32 (t : Tr) : Value := .agg #[.int .i32 t.p, .int .i32 t.q, .int .i32 t.r]
def cells32 (t : Tr) : List Value := [.int .i32 t.p, .int .i32 t.q, .int .i32 t.r]
def toT (f : Tr) (k : Nat) : Tr := ⟨if 0 < k then f.p else 0, if 1 < k then f.q else 0, if 2 < k then f.r else 0⟩
def sumT (a b : Tr) : Tr := ⟨a.p + b.p, a.q + b.q, a.r + b.r⟩
def negT (a : Tr) : Tr := ⟨-a.p, -a.q, -a.r⟩
def wf32 (t : Tr) : Prop := ((Lit.int .i32 t.p).wf = true ∧ (Lit.int .i32 t.q).wf = true ∧ (Lit.int .i32 t.r).wf = true)
theorem toT_set (f : Tr) {k : Nat} (h : k < 3) : (toT f k).cells.set k (.int .i64 (f.get k)) = (toT f (k + 1)).cells := by
  rcases (show k = 0 ∨ k = 1 ∨ k = 2 by omega) with rfl | rfl | rfl <;> rfl
theorem toT_get (f : Tr) {k : Nat} (h : k < 3) : (toT f (k + 1)).get k = f.get k := by
  rcases (show k = 0 ∨ k = 1 ∨ k = 2 by omega) with rfl | rfl | rfl <;> rfl
theorem toT_3 (f : Tr) : toT f 3 = f := rfl
theorem sumT_get (a b : Tr) (k : Nat) : (sumT a b).get k = a.get k + b.get k := by
  unfold Tr.get sumT
  by_cases h : k = 0
  · simp [h]
  · by_cases h' : k = 1 <;> simp [h, h']
theorem negT_get (a : Tr) (k : Nat) : (negT a).get k = -a.get k := by
  unfold Tr.get negT
  by_cases h : k = 0
  · simp [h]
  · by_cases h' : k = 1 <;> simp [h, h']
theorem Row.oth {W : World} {b : Nat} {t : TypeId} {vs : List Value} (h : Row W b t vs) {c k : Nat} (hne : b ≠ c) (v : Value) : Row (W.setCell ⟨c, k, none⟩ v) b t vs :=
  Row.other h (by first | exact hne | exact hne.symm) _
theorem wf32_bd {t : Tr} (h : wf32 t) (k : Nat) : -2147483648 ≤ t.get k ∧ t.get k ≤ 2147483647 := by
  obtain ⟨h1, h2, h3⟩ := h
  have g : ∀ n : Int, (Lit.int .i32 n).wf = true → -2147483648 ≤ n ∧ n ≤ 2147483647 := fun n hn => by
    have := bounds_i32 hn
    omega
  unfold Tr.get; split
  · exact g _ h1
  · split
    · exact g _ h2
    · exact g _ h3
theorem Row32 {W : World} {b : Nat} {t : TypeId} {r : Tr} (h : Row W b t (cells32 r)) {k : Nat} (hk : k < 3) : W.cell? ⟨b, k, none⟩ = some (.int .i32 (r.get k)) := by
  rw [Row.cell h]
  rcases (show k = 0 ∨ k = 1 ∨ k = 2 by omega) with rfl | rfl | rfl <;> rfl
theorem times_pow {g a : Int} (hg : vld g = true) (ha : vld a = true) (p q : Int) : a * powC g p % 2147483579 * powC g q % 2147483579 = a * powC g (p + q) % 2147483579 := by
  have h1 := vld_powC hg p
  have h2 := vld_powC hg q
  rw [mul_in ha h1, mul_in (vld_mul ha h1) h2, mul_assoc' ha h1 h2, pow_add' hg, mul_in ha (vld_powC hg _)]
theorem times_pow0 {g a : Int} (hg : vld g = true) (ha : vld a = true) : a * powC g 0 % 2147483579 = a := by
  rw [pow_0 hg, mul_in ha vld_1, mul_one' ha]
theorem moreC_more {key : Int} (hk : vld key = true) {c : Ci} (hc : okC c = true) (a b : Tr) (i : Nat) : moreC key b i (moreC key a i c) = moreC key (sumT a b) i c := by
  obtain ⟨ha, hb⟩ := okC_iff.1 hc
  unfold moreC
  rw [sumT_get]
  simp only
  rw [times_pow vld_4 ha, times_pow hk hb]
theorem moreC_0 {key : Int} (hk : vld key = true) {c : Ci} (hc : okC c = true) (a : Tr) (i : Nat) : moreC key (sumT a (negT a)) i c = c := by
  obtain ⟨ha, hb⟩ := okC_iff.1 hc
  unfold moreC
  rw [sumT_get, negT_get, show a.get i + -a.get i = 0 by omega, times_pow0 vld_4 ha, times_pow0 hk hb]
theorem map_more {key : Int} (hk : vld key = true) {s : Se} (hs : okS s = true) (a b : Tr) : (s.map (moreC key a)).map (moreC key b) = s.map (moreC key (sumT a b)) := by
  obtain ⟨h1, h2, h3⟩ := okS_iff.1 hs
  unfold Se.map
  simp only [moreC_more hk h1, moreC_more hk h2, moreC_more hk h3]
theorem map_0 {key : Int} (hk : vld key = true) {s : Se} (hs : okS s = true) (a : Tr) : s.map (moreC key (sumT a (negT a))) = s := by
  obtain ⟨h1, h2, h3⟩ := okS_iff.1 hs
  unfold Se.map
  rw [moreC_0 hk h1, moreC_0 hk h2, moreC_0 hk h3]
theorem sumT_comm (a b : Tr) : sumT a b = sumT b a := by
  unfold sumT; rw [Int.add_comm a.p, Int.add_comm a.q, Int.add_comm a.r]
theorem againC_ok {key : Int} (hk : vld key = true) {s : Se} (hs : okS s = true) (a : Tr) : againC key s a = s.map (moreC key a) ∧ againE key s = 0 ∧ okS (againC key s a) = true := by
  unfold againC againE; rw [hk, hs]; exact ⟨rfl, chS_0 hs, okS_more hk hs⟩
theorem sealC_ok {key : Int} (hk : vld key = true) {t : Tr} (hw : wOK t = true) (a : Tr) : sealC key t a = (seal0 t).map (moreC key a) ∧ sealE key t = 0 ∧ okS (sealC key t a) = true := by
  unfold sealC sealE; rw [hk, hw]; exact ⟨rfl, rfl, okS_more hk (seal0_ok hw)⟩
/-- what the law calls -/
theorem twice_calls {key : Int} (hk : vld key = true) {s : Se} (hs : okS s = true) {t : Tr} (hw : wOK t = true) (a b : Tr) :
    ∃ x z u c d : Se, (∀ w : World, Calls Try.prog 18 #[.int .i64 key, s.val, a.val] w fun e w' => e = .returned (.tuple #[x.val, .int .i64 0]) ∧ Below w.heap.size w w') ∧
      (∀ w : World, Calls Try.prog 18 #[.int .i64 key, x.val, b.val] w fun e w' => e = .returned (.tuple #[z.val, .int .i64 0]) ∧ Below w.heap.size w w') ∧
      (∀ w : World, Calls Try.prog 18 #[.int .i64 key, s.val, (sumT a b).val] w fun e w' => e = .returned (.tuple #[z.val, .int .i64 0]) ∧ Below w.heap.size w w') ∧
      (∀ w : World, Calls Try.prog 18 #[.int .i64 key, s.val, b.val] w fun e w' => e = .returned (.tuple #[u.val, .int .i64 0]) ∧ Below w.heap.size w w') ∧
      (∀ w : World, Calls Try.prog 18 #[.int .i64 key, u.val, a.val] w fun e w' => e = .returned (.tuple #[z.val, .int .i64 0]) ∧ Below w.heap.size w w') ∧
      (∀ w : World, Calls Try.prog 18 #[.int .i64 key, x.val, (negT a).val] w fun e w' => e = .returned (.tuple #[s.val, .int .i64 0]) ∧ Below w.heap.size w w') ∧
      (∀ w : World, Calls Try.prog 16 #[.int .i64 key, t.val, a.val] w fun e w' => e = .returned (.tuple #[c.val, .int .i64 0]) ∧ Below w.heap.size w w') ∧
      (∀ w : World, Calls Try.prog 18 #[.int .i64 key, c.val, b.val] w fun e w' => e = .returned (.tuple #[d.val, .int .i64 0]) ∧ Below w.heap.size w w') ∧
      (∀ w : World, Calls Try.prog 16 #[.int .i64 key, t.val, (sumT a b).val] w fun e w' => e = .returned (.tuple #[d.val, .int .i64 0]) ∧ Below w.heap.size w w') := by
  obtain ⟨x1, x2, x3⟩ := againC_ok hk hs a
  obtain ⟨u1, u2, u3⟩ := againC_ok hk hs b
  obtain ⟨z1, z2, z3⟩ := againC_ok hk hs (sumT a b)
  obtain ⟨c1, c2, c3⟩ := sealC_ok hk hw a
  obtain ⟨d1, d2, d3⟩ := sealC_ok hk hw (sumT a b)
  obtain ⟨xb1, xb2, _⟩ := againC_ok hk x3 b
  obtain ⟨ua1, ua2, _⟩ := againC_ok hk u3 a
  obtain ⟨xn1, xn2, _⟩ := againC_ok hk x3 (negT a)
  obtain ⟨cb1, cb2, _⟩ := againC_ok hk c3 b
  have e1 : againC key (againC key s a) b = againC key s (sumT a b) := by rw [xb1, x1, z1, map_more hk hs]
  have e2 : againC key (againC key s b) a = againC key s (sumT a b) := by rw [ua1, u1, z1, map_more hk hs, sumT_comm]
  have e3 : againC key (againC key s a) (negT a) = s := by rw [xn1, x1, map_more hk hs, map_0 hk hs]
  have e4 : againC key (sealC key t a) b = sealC key t (sumT a b) := by rw [cb1, c1, d1, map_more hk (seal0_ok hw)]
  refine ⟨againC key s a, againC key s (sumT a b), againC key s b, sealC key t a, sealC key t (sumT a b), fun w => ?_, fun w => ?_, fun w => ?_, fun w => ?_, fun w => ?_, fun w => ?_, fun w => ?_, fun w => ?_, fun w => ?_⟩
  · have h := again_any key s a w; rw [x2] at h; exact h
  · have h := again_any key (againC key s a) b w; rw [xb2, e1] at h; exact h
  · have h := again_any key s (sumT a b) w; rw [z2] at h; exact h
  · have h := again_any key s b w; rw [u2] at h; exact h
  · have h := again_any key (againC key s b) a w; rw [ua2, e2] at h; exact h
  · have h := again_any key (againC key s a) (negT a) w; rw [xn2, e3] at h; exact h
  · have h := seal_any key t a w; rw [c2] at h; exact h
  · have h := again_any key (sealC key t a) b w; rw [cb2, e4] at h; exact h
  · have h := seal_any key t (sumT a b) w; rw [d2] at h; exact h
/-- the law's own blocks, k rounds done -/
structure Tw (w : World) (m : Nat) (s : Se) (t a b : Tr) (j k : Nat) (W : World) : Prop where
  p0 : Row W w.heap.size 34 s.cells
  p1 : Row W (w.heap.size + 1) 30 t.cells
  p2 : Row W (w.heap.size + 1 + 1) 51 (cells32 a)
  p3 : Row W (w.heap.size + 1 + 1 + 1) 51 (cells32 b)
  d0 : Row W m 29 (toT a j).cells
  d1 : Row W (m + 1) 29 (toT b j).cells
  d2 : Row W (m + 1 + 1) 29 (toT (sumT a b) k).cells
  d3 : Row W (m + 1 + 1 + 1) 29 (toT (negT a) k).cells
  hm : w.heap.size + 1 + 1 + 1 < m
  b : Below w.heap.size w W
theorem Tw.start {w W : World} {s : Se} {t a b : Tr} (p0 : Row W w.heap.size 34 s.cells) (p1 : Row W (w.heap.size + 1) 30 t.cells) (p2 : Row W (w.heap.size + 1 + 1) 51 (cells32 a)) (p3 : Row W (w.heap.size + 1 + 1 + 1) 51 (cells32 b))
    (hm : w.heap.size + 1 + 1 + 1 < W.heap.size) (hb : Below w.heap.size w W) :
    Tw w W.heap.size s t a b 0 0 ((((W.alloc (.cells (toT a 0).cells.toArray 29)).alloc (.cells (toT a 0).cells.toArray 29)).alloc (.cells (toT a 0).cells.toArray 29)).alloc (.cells (toT a 0).cells.toArray 29)) :=
  ⟨(((p0.alloc _).alloc _).alloc _).alloc _, (((p1.alloc _).alloc _).alloc _).alloc _, (((p2.alloc _).alloc _).alloc _).alloc _, (((p3.alloc _).alloc _).alloc _).alloc _,
   (((Row.new W _ _).alloc _).alloc _).alloc _, ((row_at (by simp) _ _).alloc _).alloc _, (row_at (by simp) _ _).alloc _, row_at (by simp) _ _, hm,
   (((hb.alloc hb.size _).alloc (by simp; have := hb.size; omega) _).alloc (by simp; have := hb.size; omega) _).alloc (by simp; have := hb.size; omega) _⟩
theorem Tw.fst {w W : World} {m k : Nat} {s : Se} {t a b : Tr} {x y : Int} (h : Tw w m s t a b k k W) (z0 : (toT a k).cells.set k (.int .i64 x) = (toT a (k + 1)).cells) (z1 : (toT b k).cells.set k (.int .i64 y) = (toT b (k + 1)).cells) :
    Tw w m s t a b (k + 1) k ((W.setCell ⟨m, k, none⟩ (.int .i64 x)).setCell ⟨m + 1, k, none⟩ (.int .i64 y)).drew := by
  have hm := h.hm
  have hz := h.b.size
  refine ⟨Row.keep (Row.oth (Row.oth h.p0 (by omega) _) (by omega) _) rfl, Row.keep (Row.oth (Row.oth h.p1 (by omega) _) (by omega) _) rfl, Row.keep (Row.oth (Row.oth h.p2 (by omega) _) (by omega) _) rfl, Row.keep (Row.oth (Row.oth h.p3 (by omega) _) (by omega) _) rfl,
    ?_, ?_, Row.keep (Row.oth (Row.oth h.d2 (by omega) _) (by omega) _) rfl, Row.keep (Row.oth (Row.oth h.d3 (by omega) _) (by omega) _) rfl, hm, ((h.b.setCell (by show _ ≤ m; omega) _).setCell (by show _ ≤ m + 1; omega) _).drew⟩
  · rw [← z0]; exact Row.keep (Row.oth (Row.store h.d0 k _) (by omega) _) rfl
  · rw [← z1]; exact Row.keep (Row.store (Row.oth h.d1 (by omega) _) k _) rfl
theorem Tw.snd {w W : World} {m k j : Nat} {s : Se} {t a b : Tr} {x y : Int} (h : Tw w m s t a b j k W) (z0 : (toT (sumT a b) k).cells.set k (.int .i64 x) = (toT (sumT a b) (k + 1)).cells) (z1 : (toT (negT a) k).cells.set k (.int .i64 y) = (toT (negT a) (k + 1)).cells) :
    Tw w m s t a b j (k + 1) ((W.setCell ⟨m + 1 + 1, k, none⟩ (.int .i64 x)).setCell ⟨m + 1 + 1 + 1, k, none⟩ (.int .i64 y)).drew := by
  have hm := h.hm
  have hz := h.b.size
  refine ⟨Row.keep (Row.oth (Row.oth h.p0 (by omega) _) (by omega) _) rfl, Row.keep (Row.oth (Row.oth h.p1 (by omega) _) (by omega) _) rfl, Row.keep (Row.oth (Row.oth h.p2 (by omega) _) (by omega) _) rfl, Row.keep (Row.oth (Row.oth h.p3 (by omega) _) (by omega) _) rfl,
    Row.keep (Row.oth (Row.oth h.d0 (by omega) _) (by omega) _) rfl, Row.keep (Row.oth (Row.oth h.d1 (by omega) _) (by omega) _) rfl, ?_, ?_, hm, ((h.b.setCell (by show _ ≤ m + 1 + 1; omega) _).setCell (by show _ ≤ m + 1 + 1 + 1; omega) _).drew⟩
  · rw [← z0]; exact Row.keep (Row.oth (Row.store h.d2 k _) (by omega) _) rfl
  · rw [← z1]; exact Row.keep (Row.store (Row.oth h.d3 (by omega) _) k _) rfl
set_option maxRecDepth 100000 in
set_option maxHeartbeats 4000000 in
theorem twice_main (key : Int) (s : Se) (t a b : Tr) (ha : wf32 a) (hb : wf32 b) (hv : vld key = true) (hs : okS s = true) (hw : wOK t = true) (w : World) :
    Calls Try.prog 7 #[.int .i64 key, s.val, t.val, val32 a, val32 b] w fun e w' => e = .returned (.bool true) ∧ Below w.heap.size w w' := by
  have hst := fun W => @Tw.start w W s t a b
  have HST := Lib.hid hst
  have ka := fun k => wf32_bd ha k
  have kb := fun k => wf32_bd hb k
  have KA := Lib.hid ka
  have KB := Lib.hid kb
  have cs := chS_0 hs
  clear ka kb ha hb hst
  have c1 := fun w => rcheck_any s w
  have c2 := fun w => words_any t w
  rw [cs] at c1
  rw [hw] at c2
  have HS := Lib.hid hs
  have HW := Lib.hid hw
  have H1 := Lib.hid c1
  have H2 := Lib.hid c2
  clear cs hs hw c1 c2
  unfold Se.val Tr.val val32
  go_enter Try.func7, Try.ntmps7
  go_wp2_with (first
    | (go_at_call 11; (with_reducible refine (sane10 _).mono ?_); rintro e w1 ⟨rfl, hb⟩; obtain ⟨hB, hz, p0, p1, p2, p3⟩ := stepP4 hb; clear hb; obtain ⟨q0, q1, q2, q3, q4, q5⟩ := st6 p0; obtain ⟨r0, r1, r2⟩ := st3 p1)
    | (go_at_call 26; (with_reducible refine (refvalid_any _ _).mono ?_); rintro e wq ⟨rfl, rfl⟩)
    | (go_at_call 27; refine (H1.out _).mono ?_; rintro e w2 ⟨rfl, hb⟩; obtain ⟨hB, hzn, hk⟩ := step0 hB hb; replace hz := lt_t hz hzn; replace p0 := hk _ _ _ p0; replace p1 := hk _ _ _ p1; replace p2 := hk _ _ _ p2; replace p3 := hk _ _ _ p3; clear hb hk hzn q0 q1 q2 q3 q4 q5 r0 r1 r2; obtain ⟨q0, q1, q2, q3, q4, q5⟩ := st6 p0; obtain ⟨r0, r1, r2⟩ := st3 p1)
    | (go_at_call 21; refine (H2.out _).mono ?_; rintro e w3 ⟨rfl, hb⟩; obtain ⟨hB, hzn, hk⟩ := step0 hB hb; replace hz := lt_t hz hzn; replace p0 := hk _ _ _ p0; replace p1 := hk _ _ _ p1; replace p2 := hk _ _ _ p2; replace p3 := hk _ _ _ p3; clear hb hk hzn q0 q1 q2 q3 q4 q5 r0 r1 r2; obtain ⟨q0, q1, q2, q3, q4, q5⟩ := st6 p0; obtain ⟨r0, r1, r2⟩ := st3 p1))
  have hT := HST.out w3 p0 p1 p2 p3 hz hB
  have e0 : (toT a 0).cells.toArray = #[.int .i64 0, .int .i64 0, .int .i64 0] := rfl
  rw [e0] at hT
  clear e0 HST p0 p1 p2 p3 hz hB q0 q1 q2 q3 q4 q5 r0 r1 r2
  obtain ⟨m, hm⟩ : ∃ m, w3.heap.size = m := ⟨_, rfl⟩
  obtain ⟨W0, hW0⟩ : ∃ W0 : World, ((((w3.alloc (.cells #[.int .i64 0, .int .i64 0, .int .i64 0] 29)).alloc (.cells #[.int .i64 0, .int .i64 0, .int .i64 0] 29)).alloc (.cells #[.int .i64 0, .int .i64 0, .int .i64 0] 29)).alloc (.cells #[.int .i64 0, .int .i64 0, .int .i64 0] 29)) = W0 := ⟨_, rfl⟩
  rw [hW0, hm] at hT
  rw [hW0, hm]
  clear hW0 hm
  go_loopg [51] 3 (fun g i wr => ∃ k : Nat, i = .int .i64 k ∧ k + g = 3 ∧ Tw w m s t a b k k wr)
  case atStart => exact ⟨0, rfl, by omega, hT⟩
  case round =>
    clear hT
    obtain ⟨k, rfl, hk, hT⟩ := hrel
    by_cases hlt : k < 3
    · have ca := Row32 hT.p2 hlt
      have cb := Row32 hT.p3 hlt
      have ba := KA.out k
      have bb := KB.out k
      have s5 : (0 : Int) ≤ k := by omega
      have s6 : (k : Int) < 3 := by omega
      have z0 := toT_set a hlt
      have z1 := toT_set b hlt
      have z2 := toT_set (sumT a b) hlt
      have z3 := toT_set (negT a) hlt
      rw [sumT_get] at z2
      rw [negT_get] at z3
      obtain ⟨x, hx⟩ : ∃ x, a.get k = x := ⟨_, rfl⟩
      obtain ⟨y, hy⟩ : ∃ y, b.get k = y := ⟨_, rfl⟩
      rw [hx] at ca ba z0 z2 z3
      rw [hy] at cb bb z1 z2
      have u0 : wr.cell? ⟨m, k, none⟩ = some _ := RowT_get hT.d0 hlt
      have u1 : wr.cell? ⟨m + 1, k, none⟩ = some _ := RowT_get hT.d1 hlt
      have f0 := Row.frozen hT.d0 k
      have f1 := Row.frozen hT.d1 k
      have Z0 := Lib.hid z0
      have Z1 := Lib.hid z1
      have Z2 := Lib.hid z2
      have Z3 := Lib.hid z3
      have HT := Lib.hid hT
      have hm := hT.hm
      have gx : (toT a (k + 1)).get k = x := by rw [← hx, toT_get a hlt]
      have gy : (toT b (k + 1)).get k = y := by rw [← hy, toT_get b hlt]
      have GX := Lib.hid gx
      have GY := Lib.hid gy
      clear z0 z1 z2 z3 hT hx hy gx gy
      go_wp2_with fail
      go_region
      have hT1 := HT.out.fst Z0.out Z1.out
      obtain ⟨W1, hW1⟩ : ∃ W1 : World, ((wr.setCell ⟨m, k, none⟩ (.int .i64 x)).setCell ⟨m + 1, k, none⟩ (.int .i64 y)).drew = W1 := ⟨_, rfl⟩
      rw [hW1] at hT1
      rw [hW1]
      clear hW1 HT f0 f1 u0 u1 ca cb
      have c0 : W1.cell? ⟨m, k, none⟩ = some (.int .i64 x) := by
        have h := RowT_get hT1.d0 hlt; rw [GX.out] at h; exact h
      have c1 : W1.cell? ⟨m + 1, k, none⟩ = some (.int .i64 y) := by
        have h := RowT_get hT1.d1 hlt; rw [GY.out] at h; exact h
      have u0 : W1.cell? ⟨m + 1 + 1, k, none⟩ = some _ := RowT_get hT1.d2 hlt
      have u1 : W1.cell? ⟨m + 1 + 1 + 1, k, none⟩ = some _ := RowT_get hT1.d3 hlt
      have f0 := Row.frozen hT1.d2 k
      have f1 := Row.frozen hT1.d3 k
      have HT1 := Lib.hid hT1
      clear hT1
      go_wp2_with fail
      go_region
      go_wp2_with fail
      go_roundg (gk - 1)
      case measure => omega
      case rel => exact ⟨k + 1, by go_num, by omega, HT1.out.snd Z2.out Z3.out⟩
    · obtain rfl : k = 3 := by omega
      clear KA KB H1 H2 hk
      obtain ⟨x, z, u, c, d, c1, c2, c3, c4, c5, c6, c7, c8, c9⟩ := twice_calls hv HS.out HW.out a b
      clear HS HW
      have hT' : Tw w m s t a b 3 3 wr := hT
      obtain ⟨p0, p1, _, _, d0, d1, d2, d3, hm, hB⟩ := hT'
      clear hT
      rw [toT_3] at d0 d1 d2 d3
      generalize sumT a b = sm at *
      generalize negT a = ng at *
      have hzd3 := Row.lt d3
      have hzd2 := lt_s hzd3
      have hzd1 := lt_s hzd2
      have hzd0 := lt_s hzd1
      have hzp1 : w.heap.size + 1 < wr.heap.size := by omega
      have hzp0 := lt_s hzp1
      unfold Tr.cells at d0 d1 d2 d3 p1
      unfold Se.cells at p0
      unfold Se.val Tr.val at c1 c2 c3 c4 c5 c6 c7 c8 c9
      have b1 := fun w => runS z z w
      have b2 := fun w => runS s s w
      have b3 := fun w => runS d d w
      rw [eqSe_self] at b1 b2 b3
      unfold Se.val at b1 b2 b3
      have H1 := Lib.hid c1
      have H2 := Lib.hid c2
      have H3 := Lib.hid c3
      have H4 := Lib.hid c4
      have H5 := Lib.hid c5
      have H6 := Lib.hid c6
      have H7 := Lib.hid c7
      have H8 := Lib.hid c8
      have H9 := Lib.hid c9
      clear c1 c2 c3 c4 c5 c6 c7 c8 c9 hm
      obtain ⟨p0c0, p0c1, p0c2, p0c3, p0c4, p0c5⟩ := st6 p0
      obtain ⟨p1c0, p1c1, p1c2⟩ := st3 p1
      obtain ⟨d0c0, d0c1, d0c2⟩ := st3 d0
      obtain ⟨d1c0, d1c1, d1c2⟩ := st3 d1
      obtain ⟨d2c0, d2c1, d2c2⟩ := st3 d2
      obtain ⟨d3c0, d3c1, d3c2⟩ := st3 d3
      go_wp2_with (first
        | (go_at_call 18; (with_reducible refine (H1.out _).mono ?_); rintro e w1 ⟨rfl, hb⟩; obtain ⟨hB, hzn, hk⟩ := step0 hB hb; replace p0 := hk _ _ _ p0; replace hzp0 := lt_t hzp0 hzn; replace p1 := hk _ _ _ p1; replace hzp1 := lt_t hzp1 hzn; replace d0 := hk _ _ _ d0; replace hzd0 := lt_t hzd0 hzn; replace d1 := hk _ _ _ d1; replace hzd1 := lt_t hzd1 hzn; replace d2 := hk _ _ _ d2; replace hzd2 := lt_t hzd2 hzn; replace d3 := hk _ _ _ d3; replace hzd3 := lt_t hzd3 hzn; clear hzn hk hb; clear p0c0 p0c1 p0c2 p0c3 p0c4 p0c5 p1c0 p1c1 p1c2 d0c0 d0c1 d0c2 d1c0 d1c1 d1c2 d2c0 d2c1 d2c2 d3c0 d3c1 d3c2; obtain ⟨p0c0, p0c1, p0c2, p0c3, p0c4, p0c5⟩ := st6 p0; obtain ⟨p1c0, p1c1, p1c2⟩ := st3 p1; obtain ⟨d0c0, d0c1, d0c2⟩ := st3 d0; obtain ⟨d1c0, d1c1, d1c2⟩ := st3 d1; obtain ⟨d2c0, d2c1, d2c2⟩ := st3 d2; obtain ⟨d3c0, d3c1, d3c2⟩ := st3 d3)
        | (go_at_call 18; (with_reducible refine (H2.out _).mono ?_); rintro e w2 ⟨rfl, hb⟩; obtain ⟨hB, hzn, hk, r2⟩ := step1 hB hb; replace p0 := hk _ _ _ p0; replace hzp0 := lt_t hzp0 (Nat.le_of_lt hzn); replace p1 := hk _ _ _ p1; replace hzp1 := lt_t hzp1 (Nat.le_of_lt hzn); replace d0 := hk _ _ _ d0; replace hzd0 := lt_t hzd0 (Nat.le_of_lt hzn); replace d1 := hk _ _ _ d1; replace hzd1 := lt_t hzd1 (Nat.le_of_lt hzn); replace d2 := hk _ _ _ d2; replace hzd2 := lt_t hzd2 (Nat.le_of_lt hzn); replace d3 := hk _ _ _ d3; replace hzd3 := lt_t hzd3 (Nat.le_of_lt hzn); have hzr2 := hzn; clear hzn hk hb; clear p0c0 p0c1 p0c2 p0c3 p0c4 p0c5 p1c0 p1c1 p1c2 d0c0 d0c1 d0c2 d1c0 d1c1 d1c2 d2c0 d2c1 d2c2 d3c0 d3c1 d3c2; obtain ⟨p0c0, p0c1, p0c2, p0c3, p0c4, p0c5⟩ := st6 p0; obtain ⟨p1c0, p1c1, p1c2⟩ := st3 p1; obtain ⟨d0c0, d0c1, d0c2⟩ := st3 d0; obtain ⟨d1c0, d1c1, d1c2⟩ := st3 d1; obtain ⟨d2c0, d2c1, d2c2⟩ := st3 d2; obtain ⟨d3c0, d3c1, d3c2⟩ := st3 d3; obtain ⟨r2c0, r2c1, r2c2, r2c3, r2c4, r2c5⟩ := st6 r2)
        | (go_at_call 18; (with_reducible refine (H3.out _).mono ?_); rintro e w3 ⟨rfl, hb⟩; obtain ⟨hB, hzn, hk, r3⟩ := step1 hB hb; replace p0 := hk _ _ _ p0; replace hzp0 := lt_t hzp0 (Nat.le_of_lt hzn); replace p1 := hk _ _ _ p1; replace hzp1 := lt_t hzp1 (Nat.le_of_lt hzn); replace d0 := hk _ _ _ d0; replace hzd0 := lt_t hzd0 (Nat.le_of_lt hzn); replace d1 := hk _ _ _ d1; replace hzd1 := lt_t hzd1 (Nat.le_of_lt hzn); replace d2 := hk _ _ _ d2; replace hzd2 := lt_t hzd2 (Nat.le_of_lt hzn); replace d3 := hk _ _ _ d3; replace hzd3 := lt_t hzd3 (Nat.le_of_lt hzn); replace r2 := hk _ _ _ r2; replace hzr2 := lt_t hzr2 (Nat.le_of_lt hzn); have hzr3 := hzn; clear hzn hk hb; clear p0c0 p0c1 p0c2 p0c3 p0c4 p0c5 p1c0 p1c1 p1c2 d0c0 d0c1 d0c2 d1c0 d1c1 d1c2 d2c0 d2c1 d2c2 d3c0 d3c1 d3c2 r2c0 r2c1 r2c2 r2c3 r2c4 r2c5; obtain ⟨p0c0, p0c1, p0c2, p0c3, p0c4, p0c5⟩ := st6 p0; obtain ⟨p1c0, p1c1, p1c2⟩ := st3 p1; obtain ⟨d0c0, d0c1, d0c2⟩ := st3 d0; obtain ⟨d1c0, d1c1, d1c2⟩ := st3 d1; obtain ⟨d2c0, d2c1, d2c2⟩ := st3 d2; obtain ⟨d3c0, d3c1, d3c2⟩ := st3 d3; obtain ⟨r2c0, r2c1, r2c2, r2c3, r2c4, r2c5⟩ := st6 r2; obtain ⟨r3c0, r3c1, r3c2, r3c3, r3c4, r3c5⟩ := st6 r3)
        | (go_at_call 18; (with_reducible refine (H4.out _).mono ?_); rintro e w4 ⟨rfl, hb⟩; obtain ⟨hB, hzn, hk, r4⟩ := step1 hB hb; replace p0 := hk _ _ _ p0; replace hzp0 := lt_t hzp0 (Nat.le_of_lt hzn); replace p1 := hk _ _ _ p1; replace hzp1 := lt_t hzp1 (Nat.le_of_lt hzn); replace d0 := hk _ _ _ d0; replace hzd0 := lt_t hzd0 (Nat.le_of_lt hzn); replace d1 := hk _ _ _ d1; replace hzd1 := lt_t hzd1 (Nat.le_of_lt hzn); replace d2 := hk _ _ _ d2; replace hzd2 := lt_t hzd2 (Nat.le_of_lt hzn); replace d3 := hk _ _ _ d3; replace hzd3 := lt_t hzd3 (Nat.le_of_lt hzn); replace r2 := hk _ _ _ r2; replace hzr2 := lt_t hzr2 (Nat.le_of_lt hzn); replace r3 := hk _ _ _ r3; replace hzr3 := lt_t hzr3 (Nat.le_of_lt hzn); have hzr4 := hzn; clear hzn hk hb; clear p0c0 p0c1 p0c2 p0c3 p0c4 p0c5 p1c0 p1c1 p1c2 d0c0 d0c1 d0c2 d1c0 d1c1 d1c2 d2c0 d2c1 d2c2 d3c0 d3c1 d3c2 r2c0 r2c1 r2c2 r2c3 r2c4 r2c5 r3c0 r3c1 r3c2 r3c3 r3c4 r3c5; obtain ⟨p0c0, p0c1, p0c2, p0c3, p0c4, p0c5⟩ := st6 p0; obtain ⟨p1c0, p1c1, p1c2⟩ := st3 p1; obtain ⟨d0c0, d0c1, d0c2⟩ := st3 d0; obtain ⟨d1c0, d1c1, d1c2⟩ := st3 d1; obtain ⟨d2c0, d2c1, d2c2⟩ := st3 d2; obtain ⟨d3c0, d3c1, d3c2⟩ := st3 d3; obtain ⟨r2c0, r2c1, r2c2, r2c3, r2c4, r2c5⟩ := st6 r2; obtain ⟨r3c0, r3c1, r3c2, r3c3, r3c4, r3c5⟩ := st6 r3; obtain ⟨r4c0, r4c1, r4c2, r4c3, r4c4, r4c5⟩ := st6 r4)
        | (go_at_call 18; (with_reducible refine (H5.out _).mono ?_); rintro e w5 ⟨rfl, hb⟩; obtain ⟨hB, hzn, hk, r5⟩ := step1 hB hb; replace p0 := hk _ _ _ p0; replace hzp0 := lt_t hzp0 (Nat.le_of_lt hzn); replace p1 := hk _ _ _ p1; replace hzp1 := lt_t hzp1 (Nat.le_of_lt hzn); replace d0 := hk _ _ _ d0; replace hzd0 := lt_t hzd0 (Nat.le_of_lt hzn); replace d1 := hk _ _ _ d1; replace hzd1 := lt_t hzd1 (Nat.le_of_lt hzn); replace d2 := hk _ _ _ d2; replace hzd2 := lt_t hzd2 (Nat.le_of_lt hzn); replace d3 := hk _ _ _ d3; replace hzd3 := lt_t hzd3 (Nat.le_of_lt hzn); replace r2 := hk _ _ _ r2; replace hzr2 := lt_t hzr2 (Nat.le_of_lt hzn); replace r3 := hk _ _ _ r3; replace hzr3 := lt_t hzr3 (Nat.le_of_lt hzn); replace r4 := hk _ _ _ r4; replace hzr4 := lt_t hzr4 (Nat.le_of_lt hzn); have hzr5 := hzn; clear hzn hk hb; clear p0c0 p0c1 p0c2 p0c3 p0c4 p0c5 p1c0 p1c1 p1c2 d0c0 d0c1 d0c2 d1c0 d1c1 d1c2 d2c0 d2c1 d2c2 d3c0 d3c1 d3c2 r2c0 r2c1 r2c2 r2c3 r2c4 r2c5 r3c0 r3c1 r3c2 r3c3 r3c4 r3c5 r4c0 r4c1 r4c2 r4c3 r4c4 r4c5; obtain ⟨p0c0, p0c1, p0c2, p0c3, p0c4, p0c5⟩ := st6 p0; obtain ⟨p1c0, p1c1, p1c2⟩ := st3 p1; obtain ⟨d0c0, d0c1, d0c2⟩ := st3 d0; obtain ⟨d1c0, d1c1, d1c2⟩ := st3 d1; obtain ⟨d2c0, d2c1, d2c2⟩ := st3 d2; obtain ⟨d3c0, d3c1, d3c2⟩ := st3 d3; obtain ⟨r2c0, r2c1, r2c2, r2c3, r2c4, r2c5⟩ := st6 r2; obtain ⟨r3c0, r3c1, r3c2, r3c3, r3c4, r3c5⟩ := st6 r3; obtain ⟨r4c0, r4c1, r4c2, r4c3, r4c4, r4c5⟩ := st6 r4; obtain ⟨r5c0, r5c1, r5c2, r5c3, r5c4, r5c5⟩ := st6 r5)
        | (go_at_call 18; (with_reducible refine (H6.out _).mono ?_); rintro e w6 ⟨rfl, hb⟩; obtain ⟨hB, hzn, hk, r6⟩ := step1 hB hb; replace p0 := hk _ _ _ p0; replace hzp0 := lt_t hzp0 (Nat.le_of_lt hzn); replace p1 := hk _ _ _ p1; replace hzp1 := lt_t hzp1 (Nat.le_of_lt hzn); replace d0 := hk _ _ _ d0; replace hzd0 := lt_t hzd0 (Nat.le_of_lt hzn); replace d1 := hk _ _ _ d1; replace hzd1 := lt_t hzd1 (Nat.le_of_lt hzn); replace d2 := hk _ _ _ d2; replace hzd2 := lt_t hzd2 (Nat.le_of_lt hzn); replace d3 := hk _ _ _ d3; replace hzd3 := lt_t hzd3 (Nat.le_of_lt hzn); replace r2 := hk _ _ _ r2; replace hzr2 := lt_t hzr2 (Nat.le_of_lt hzn); replace r3 := hk _ _ _ r3; replace hzr3 := lt_t hzr3 (Nat.le_of_lt hzn); replace r4 := hk _ _ _ r4; replace hzr4 := lt_t hzr4 (Nat.le_of_lt hzn); replace r5 := hk _ _ _ r5; replace hzr5 := lt_t hzr5 (Nat.le_of_lt hzn); have hzr6 := hzn; clear hzn hk hb; clear p0c0 p0c1 p0c2 p0c3 p0c4 p0c5 p1c0 p1c1 p1c2 d0c0 d0c1 d0c2 d1c0 d1c1 d1c2 d2c0 d2c1 d2c2 d3c0 d3c1 d3c2 r2c0 r2c1 r2c2 r2c3 r2c4 r2c5 r3c0 r3c1 r3c2 r3c3 r3c4 r3c5 r4c0 r4c1 r4c2 r4c3 r4c4 r4c5 r5c0 r5c1 r5c2 r5c3 r5c4 r5c5; obtain ⟨p0c0, p0c1, p0c2, p0c3, p0c4, p0c5⟩ := st6 p0; obtain ⟨p1c0, p1c1, p1c2⟩ := st3 p1; obtain ⟨d0c0, d0c1, d0c2⟩ := st3 d0; obtain ⟨d1c0, d1c1, d1c2⟩ := st3 d1; obtain ⟨d2c0, d2c1, d2c2⟩ := st3 d2; obtain ⟨d3c0, d3c1, d3c2⟩ := st3 d3; obtain ⟨r2c0, r2c1, r2c2, r2c3, r2c4, r2c5⟩ := st6 r2; obtain ⟨r3c0, r3c1, r3c2, r3c3, r3c4, r3c5⟩ := st6 r3; obtain ⟨r4c0, r4c1, r4c2, r4c3, r4c4, r4c5⟩ := st6 r4; obtain ⟨r5c0, r5c1, r5c2, r5c3, r5c4, r5c5⟩ := st6 r5; obtain ⟨r6c0, r6c1, r6c2, r6c3, r6c4, r6c5⟩ := st6 r6)
        | (go_at_call 16; (with_reducible refine (H7.out _).mono ?_); rintro e w7 ⟨rfl, hb⟩; obtain ⟨hB, hzn, hk, r7⟩ := step1 hB hb; replace p0 := hk _ _ _ p0; replace hzp0 := lt_t hzp0 (Nat.le_of_lt hzn); replace p1 := hk _ _ _ p1; replace hzp1 := lt_t hzp1 (Nat.le_of_lt hzn); replace d0 := hk _ _ _ d0; replace hzd0 := lt_t hzd0 (Nat.le_of_lt hzn); replace d1 := hk _ _ _ d1; replace hzd1 := lt_t hzd1 (Nat.le_of_lt hzn); replace d2 := hk _ _ _ d2; replace hzd2 := lt_t hzd2 (Nat.le_of_lt hzn); replace d3 := hk _ _ _ d3; replace hzd3 := lt_t hzd3 (Nat.le_of_lt hzn); replace r2 := hk _ _ _ r2; replace hzr2 := lt_t hzr2 (Nat.le_of_lt hzn); replace r3 := hk _ _ _ r3; replace hzr3 := lt_t hzr3 (Nat.le_of_lt hzn); replace r4 := hk _ _ _ r4; replace hzr4 := lt_t hzr4 (Nat.le_of_lt hzn); replace r5 := hk _ _ _ r5; replace hzr5 := lt_t hzr5 (Nat.le_of_lt hzn); replace r6 := hk _ _ _ r6; replace hzr6 := lt_t hzr6 (Nat.le_of_lt hzn); have hzr7 := hzn; clear hzn hk hb; clear p0c0 p0c1 p0c2 p0c3 p0c4 p0c5 p1c0 p1c1 p1c2 d0c0 d0c1 d0c2 d1c0 d1c1 d1c2 d2c0 d2c1 d2c2 d3c0 d3c1 d3c2 r2c0 r2c1 r2c2 r2c3 r2c4 r2c5 r3c0 r3c1 r3c2 r3c3 r3c4 r3c5 r4c0 r4c1 r4c2 r4c3 r4c4 r4c5 r5c0 r5c1 r5c2 r5c3 r5c4 r5c5 r6c0 r6c1 r6c2 r6c3 r6c4 r6c5; obtain ⟨p0c0, p0c1, p0c2, p0c3, p0c4, p0c5⟩ := st6 p0; obtain ⟨p1c0, p1c1, p1c2⟩ := st3 p1; obtain ⟨d0c0, d0c1, d0c2⟩ := st3 d0; obtain ⟨d1c0, d1c1, d1c2⟩ := st3 d1; obtain ⟨d2c0, d2c1, d2c2⟩ := st3 d2; obtain ⟨d3c0, d3c1, d3c2⟩ := st3 d3; obtain ⟨r2c0, r2c1, r2c2, r2c3, r2c4, r2c5⟩ := st6 r2; obtain ⟨r3c0, r3c1, r3c2, r3c3, r3c4, r3c5⟩ := st6 r3; obtain ⟨r4c0, r4c1, r4c2, r4c3, r4c4, r4c5⟩ := st6 r4; obtain ⟨r5c0, r5c1, r5c2, r5c3, r5c4, r5c5⟩ := st6 r5; obtain ⟨r6c0, r6c1, r6c2, r6c3, r6c4, r6c5⟩ := st6 r6; obtain ⟨r7c0, r7c1, r7c2, r7c3, r7c4, r7c5⟩ := st6 r7)
        | (go_at_call 18; (with_reducible refine (H8.out _).mono ?_); rintro e w8 ⟨rfl, hb⟩; obtain ⟨hB, hzn, hk, r8⟩ := step1 hB hb; replace p0 := hk _ _ _ p0; replace hzp0 := lt_t hzp0 (Nat.le_of_lt hzn); replace p1 := hk _ _ _ p1; replace hzp1 := lt_t hzp1 (Nat.le_of_lt hzn); replace d0 := hk _ _ _ d0; replace hzd0 := lt_t hzd0 (Nat.le_of_lt hzn); replace d1 := hk _ _ _ d1; replace hzd1 := lt_t hzd1 (Nat.le_of_lt hzn); replace d2 := hk _ _ _ d2; replace hzd2 := lt_t hzd2 (Nat.le_of_lt hzn); replace d3 := hk _ _ _ d3; replace hzd3 := lt_t hzd3 (Nat.le_of_lt hzn); replace r2 := hk _ _ _ r2; replace hzr2 := lt_t hzr2 (Nat.le_of_lt hzn); replace r3 := hk _ _ _ r3; replace hzr3 := lt_t hzr3 (Nat.le_of_lt hzn); replace r4 := hk _ _ _ r4; replace hzr4 := lt_t hzr4 (Nat.le_of_lt hzn); replace r5 := hk _ _ _ r5; replace hzr5 := lt_t hzr5 (Nat.le_of_lt hzn); replace r6 := hk _ _ _ r6; replace hzr6 := lt_t hzr6 (Nat.le_of_lt hzn); replace r7 := hk _ _ _ r7; replace hzr7 := lt_t hzr7 (Nat.le_of_lt hzn); have hzr8 := hzn; clear hzn hk hb; clear p0c0 p0c1 p0c2 p0c3 p0c4 p0c5 p1c0 p1c1 p1c2 d0c0 d0c1 d0c2 d1c0 d1c1 d1c2 d2c0 d2c1 d2c2 d3c0 d3c1 d3c2 r2c0 r2c1 r2c2 r2c3 r2c4 r2c5 r3c0 r3c1 r3c2 r3c3 r3c4 r3c5 r4c0 r4c1 r4c2 r4c3 r4c4 r4c5 r5c0 r5c1 r5c2 r5c3 r5c4 r5c5 r6c0 r6c1 r6c2 r6c3 r6c4 r6c5 r7c0 r7c1 r7c2 r7c3 r7c4 r7c5; obtain ⟨p0c0, p0c1, p0c2, p0c3, p0c4, p0c5⟩ := st6 p0; obtain ⟨p1c0, p1c1, p1c2⟩ := st3 p1; obtain ⟨d0c0, d0c1, d0c2⟩ := st3 d0; obtain ⟨d1c0, d1c1, d1c2⟩ := st3 d1; obtain ⟨d2c0, d2c1, d2c2⟩ := st3 d2; obtain ⟨d3c0, d3c1, d3c2⟩ := st3 d3; obtain ⟨r2c0, r2c1, r2c2, r2c3, r2c4, r2c5⟩ := st6 r2; obtain ⟨r3c0, r3c1, r3c2, r3c3, r3c4, r3c5⟩ := st6 r3; obtain ⟨r4c0, r4c1, r4c2, r4c3, r4c4, r4c5⟩ := st6 r4; obtain ⟨r5c0, r5c1, r5c2, r5c3, r5c4, r5c5⟩ := st6 r5; obtain ⟨r6c0, r6c1, r6c2, r6c3, r6c4, r6c5⟩ := st6 r6; obtain ⟨r7c0, r7c1, r7c2, r7c3, r7c4, r7c5⟩ := st6 r7; obtain ⟨r8c0, r8c1, r8c2, r8c3, r8c4, r8c5⟩ := st6 r8)
        | (go_at_call 16; (with_reducible refine (H9.out _).mono ?_); rintro e w9 ⟨rfl, hb⟩; obtain ⟨hB, hzn, hk, r9⟩ := step1 hB hb; replace p0 := hk _ _ _ p0; replace hzp0 := lt_t hzp0 (Nat.le_of_lt hzn); replace p1 := hk _ _ _ p1; replace hzp1 := lt_t hzp1 (Nat.le_of_lt hzn); replace d0 := hk _ _ _ d0; replace hzd0 := lt_t hzd0 (Nat.le_of_lt hzn); replace d1 := hk _ _ _ d1; replace hzd1 := lt_t hzd1 (Nat.le_of_lt hzn); replace d2 := hk _ _ _ d2; replace hzd2 := lt_t hzd2 (Nat.le_of_lt hzn); replace d3 := hk _ _ _ d3; replace hzd3 := lt_t hzd3 (Nat.le_of_lt hzn); replace r2 := hk _ _ _ r2; replace hzr2 := lt_t hzr2 (Nat.le_of_lt hzn); replace r3 := hk _ _ _ r3; replace hzr3 := lt_t hzr3 (Nat.le_of_lt hzn); replace r4 := hk _ _ _ r4; replace hzr4 := lt_t hzr4 (Nat.le_of_lt hzn); replace r5 := hk _ _ _ r5; replace hzr5 := lt_t hzr5 (Nat.le_of_lt hzn); replace r6 := hk _ _ _ r6; replace hzr6 := lt_t hzr6 (Nat.le_of_lt hzn); replace r7 := hk _ _ _ r7; replace hzr7 := lt_t hzr7 (Nat.le_of_lt hzn); replace r8 := hk _ _ _ r8; replace hzr8 := lt_t hzr8 (Nat.le_of_lt hzn); have hzr9 := hzn; clear hzn hk hb; clear p0c0 p0c1 p0c2 p0c3 p0c4 p0c5 p1c0 p1c1 p1c2 d0c0 d0c1 d0c2 d1c0 d1c1 d1c2 d2c0 d2c1 d2c2 d3c0 d3c1 d3c2 r2c0 r2c1 r2c2 r2c3 r2c4 r2c5 r3c0 r3c1 r3c2 r3c3 r3c4 r3c5 r4c0 r4c1 r4c2 r4c3 r4c4 r4c5 r5c0 r5c1 r5c2 r5c3 r5c4 r5c5 r6c0 r6c1 r6c2 r6c3 r6c4 r6c5 r7c0 r7c1 r7c2 r7c3 r7c4 r7c5 r8c0 r8c1 r8c2 r8c3 r8c4 r8c5; obtain ⟨p0c0, p0c1, p0c2, p0c3, p0c4, p0c5⟩ := st6 p0; obtain ⟨p1c0, p1c1, p1c2⟩ := st3 p1; obtain ⟨d0c0, d0c1, d0c2⟩ := st3 d0; obtain ⟨d1c0, d1c1, d1c2⟩ := st3 d1; obtain ⟨d2c0, d2c1, d2c2⟩ := st3 d2; obtain ⟨d3c0, d3c1, d3c2⟩ := st3 d3; obtain ⟨r2c0, r2c1, r2c2, r2c3, r2c4, r2c5⟩ := st6 r2; obtain ⟨r3c0, r3c1, r3c2, r3c3, r3c4, r3c5⟩ := st6 r3; obtain ⟨r4c0, r4c1, r4c2, r4c3, r4c4, r4c5⟩ := st6 r4; obtain ⟨r5c0, r5c1, r5c2, r5c3, r5c4, r5c5⟩ := st6 r5; obtain ⟨r6c0, r6c1, r6c2, r6c3, r6c4, r6c5⟩ := st6 r6; obtain ⟨r7c0, r7c1, r7c2, r7c3, r7c4, r7c5⟩ := st6 r7; obtain ⟨r8c0, r8c1, r8c2, r8c3, r8c4, r8c5⟩ := st6 r8; obtain ⟨r9c0, r9c1, r9c2, r9c3, r9c4, r9c5⟩ := st6 r9))
      refine wp_loop_rounds 10 ?_
      rw [rounds_succ]
      go_wp2_with fail
      rw [rounds_succ]
      go_wp2_with fail
      rw [rounds_succ]
      go_wp2_with fail
      rw [rounds_succ]
      go_wp2_with fail
      rw [rounds_succ]
      go_wp2_with fail
      rw [rounds_succ]
      go_wp2_with fail
      rw [rounds_succ]
      go_wp2_with fail
      rw [rounds_succ]
      go_wp2_with fail
      rw [rounds_succ]
      go_wp2_with fail
      rw [rounds_succ]
      go_wp2_with fail
      go_ret
      exact ⟨rfl, (hB.alloc hB.size _).alloc (by have := hB.size; simp; omega) _⟩
set_option maxRecDepth 100000 in
set_option maxHeartbeats 4000000 in
theorem twice_no (key : Int) (s : Se) (t a b : Tr) (hv : vld key = false) (w : World) :
    Calls Try.prog 7 #[.int .i64 key, s.val, t.val, val32 a, val32 b] w fun e w' => e = .returned (.bool true) ∧ Below w.heap.size w w' := by
  unfold Se.val Tr.val val32
  go_enter Try.func7, Try.ntmps7
  go_wp2_with (first
    | (go_at_call 11; (with_reducible refine (sane10 _).mono ?_); rintro e w1 ⟨rfl, hb⟩; obtain ⟨hB, hz, p0, p1, p2, p3⟩ := stepP4 hb; clear hb; obtain ⟨q0, q1, q2, q3, q4, q5⟩ := st6 p0; obtain ⟨r0, r1, r2⟩ := st3 p1)
    | (go_at_call 26; (with_reducible refine (refvalid_any _ _).mono ?_); rintro e wq ⟨rfl, rfl⟩))
  go_ret
  exact ⟨rfl, hB⟩
set_option maxRecDepth 100000 in
set_option maxHeartbeats 4000000 in
theorem twice_bad (key : Int) (s : Se) (t a b : Tr) (hv : vld key = true) (hs : okS s = false) (w : World) :
    Calls Try.prog 7 #[.int .i64 key, s.val, t.val, val32 a, val32 b] w fun e w' => e = .returned (.bool true) ∧ Below w.heap.size w w' := by
  have c1 := fun w => rcheck_any s w
  rw [chS_1 hs] at c1
  have H1 := Lib.hid c1
  clear c1 hs
  unfold Se.val Tr.val val32
  go_enter Try.func7, Try.ntmps7
  go_wp2_with (first
    | (go_at_call 11; (with_reducible refine (sane10 _).mono ?_); rintro e w1 ⟨rfl, hb⟩; obtain ⟨hB, hz, p0, p1, p2, p3⟩ := stepP4 hb; clear hb; obtain ⟨q0, q1, q2, q3, q4, q5⟩ := st6 p0; obtain ⟨r0, r1, r2⟩ := st3 p1)
    | (go_at_call 26; (with_reducible refine (refvalid_any _ _).mono ?_); rintro e wq ⟨rfl, rfl⟩)
    | (go_at_call 27; refine (H1.out _).mono ?_; rintro e w2 ⟨rfl, hb⟩; obtain ⟨hB, hzn, hk⟩ := step0 hB hb; replace hz := lt_t hz hzn; replace p0 := hk _ _ _ p0; replace p1 := hk _ _ _ p1; replace p2 := hk _ _ _ p2; replace p3 := hk _ _ _ p3; clear hb hk hzn q0 q1 q2 q3 q4 q5 r0 r1 r2; obtain ⟨q0, q1, q2, q3, q4, q5⟩ := st6 p0; obtain ⟨r0, r1, r2⟩ := st3 p1))
  go_ret
  exact ⟨rfl, hB⟩
set_option maxRecDepth 100000 in
set_option maxHeartbeats 4000000 in
theorem twice_words (key : Int) (s : Se) (t a b : Tr) (hv : vld key = true) (hs : okS s = true) (hw : wOK t = false) (w : World) :
    Calls Try.prog 7 #[.int .i64 key, s.val, t.val, val32 a, val32 b] w fun e w' => e = .returned (.bool true) ∧ Below w.heap.size w w' := by
  have c1 := fun w => rcheck_any s w
  rw [chS_0 hs] at c1
  have c2 := fun w => words_any t w
  rw [hw] at c2
  have H1 := Lib.hid c1
  have H2 := Lib.hid c2
  clear c1 c2 hs hw
  unfold Se.val Tr.val val32
  go_enter Try.func7, Try.ntmps7
  go_wp2_with (first
    | (go_at_call 11; (with_reducible refine (sane10 _).mono ?_); rintro e w1 ⟨rfl, hb⟩; obtain ⟨hB, hz, p0, p1, p2, p3⟩ := stepP4 hb; clear hb; obtain ⟨q0, q1, q2, q3, q4, q5⟩ := st6 p0; obtain ⟨r0, r1, r2⟩ := st3 p1)
    | (go_at_call 26; (with_reducible refine (refvalid_any _ _).mono ?_); rintro e wq ⟨rfl, rfl⟩)
    | (go_at_call 27; refine (H1.out _).mono ?_; rintro e w2 ⟨rfl, hb⟩; obtain ⟨hB, hzn, hk⟩ := step0 hB hb; replace hz := lt_t hz hzn; replace p0 := hk _ _ _ p0; replace p1 := hk _ _ _ p1; replace p2 := hk _ _ _ p2; replace p3 := hk _ _ _ p3; clear hb hk hzn q0 q1 q2 q3 q4 q5 r0 r1 r2; obtain ⟨q0, q1, q2, q3, q4, q5⟩ := st6 p0; obtain ⟨r0, r1, r2⟩ := st3 p1)
    | (go_at_call 21; refine (H2.out _).mono ?_; rintro e w3 ⟨rfl, hb⟩; obtain ⟨hB, hzn, hk⟩ := step0 hB hb; clear hb hk))
  go_ret
  exact ⟨rfl, hB⟩
theorem elgamalTwice_walk (key : Int) (s : Se) (t a b : Tr) (w : World) (_ : (Lit.int .i64 key).wf = true) (_ : True) (_ : wfT t) (ha : wf32 a) (hb : wf32 b) :
    Calls Try.prog 7 #[.int .i64 key, s.val, t.val, val32 a, val32 b] w fun e w' => e = .returned (.bool true) ∧ Below w.heap.size w w' := by
  cases hv : vld key with
  | false => exact twice_no key s t a b hv w
  | true =>
    cases hs : okS s with
    | false => exact twice_bad key s t a b hv hs w
    | true =>
      cases hw : wOK t with
      | false => exact twice_words key s t a b hv hs hw w
      | true => exact twice_main key s t a b ha hb hv hs hw w
section
open Go.WideShapes Go.ChangeShapes
variable {H : Type} {enc : TypeId × Value → H} {w : World} {base : Nat} {r : Reach}
theorem open_three32 {v : Value} {d : DataW H} {p : List MemPlace} (hv : Value.okWide Try.prog w r base 51 v) (h : DataW.Trod enc Try.prog w 0 (fun _ => true) true 51 v d p) : ∃ t : Tr, v = val32 t ∧ wf32 t := by
  obtain ⟨a, b, c, rfl, h1, h2, h3⟩ := open_tri Try.underlying51 Try.underlying21 (by kernel_rfl) (by kernel_rfl) hv h
  exact ⟨⟨a, b, c⟩, rfl, h1, h2, h3⟩
end
end Go.Proofs.Ytlbnbginippjfaa
