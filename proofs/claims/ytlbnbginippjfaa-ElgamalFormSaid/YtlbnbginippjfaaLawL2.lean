import Derived.Test.YtlbnbginippjfaaElT
import Derived.Test.YtlbnbginippjfaaElF
import Derived.Test.YtlbnbginippjfaaStep
import Derived.Test.YtlbnbginippjfaaEl14
import Derived.Test.YtlbnbginippjfaaEl10
import Derived.Deep.LoopGhost
set_option linter.unusedSimpArgs false
set_option linter.unusedVariables false
namespace Go.Proofs.Ytlbnbginippjfaa
open Go.RowKit Fk
theorem idxS (s : Se) {k : Nat} (h : k < 3) (w : World) : (Instr.index 34 (.agg #[.int .i64 s.x.a, .int .i64 s.x.b, .int .i64 s.y.a, .int .i64 s.y.b, .int .i64 s.z.a, .int .i64 s.z.b]) (.int .i64 k)).run Try.prog w = .ok (.agg #[.int .i64 (s.get k).a, .int .i64 (s.get k).b]) w := by
  rcases (show k = 0 ∨ k = 1 ∨ k = 2 by omega) with rfl | rfl | rfl <;> kernel_rfl
/-- the law's own blocks: the letter, the numbers -/
structure Fm (w : World) (s : Se) (r : Tr) (W : World) : Prop where
  p0 : Row W w.heap.size 34 s.cells
  p1 : Row W (w.heap.size + 1) 29 r.cells
  z : w.heap.size + 1 < W.heap.size
  b : Below w.heap.size w W
theorem Fm.alloc {w W : World} {s : Se} {r : Tr} (h : Fm w s r W) (o : Obj) : Fm w s r (W.alloc o) := ⟨h.p0.alloc _, h.p1.alloc _, by have := h.z; simp; omega, h.b.alloc h.b.size _⟩
theorem Fm.set {w W : World} {s : Se} {r : Tr} (h : Fm w s r W) {p : Addr} (hp : w.heap.size + 1 < p.block) (v : Value) : Fm w s r (W.setCell p v) :=
  ⟨Row.other h.p0 (by omega) _, Row.other h.p1 (by omega) _, by simpa using h.z, h.b.setCell (by omega) _⟩
set_option maxRecDepth 100000 in
set_option maxHeartbeats 4000000 in
theorem elgamalForm_walk (key n : Int) (s : Se) (r : Tr) (w : World) :
    Calls Try.prog 9 #[.int .i64 key, .int .i64 n, s.val, r.val] w fun e w' => e = .returned (.bool true) ∧ Below w.heap.size w w' := by
  have hix := fun k => @idxS s k
  have HIX := Lib.hid hix
  clear hix
  unfold Se.val Tr.val
  go_enter Try.func9, Try.ntmps9
  go_wp2_with (go_at_call 11; (with_reducible refine (sane10 _).mono ?_); rintro e w1 ⟨rfl, hb⟩; obtain ⟨hB, hzp1, p0, p1⟩ := stepP2 hb; clear hb; obtain ⟨q0, q1, q2, q3, q4, q5⟩ := st6 p0)
  have hF : Fm w s r w1 := ⟨p0, p1, hzp1, hB⟩
  clear hB hzp1 p0 p1 q0 q1 q2 q3 q4 q5
  go_loopg [9, 25] 3 (fun g f i wr => ∃ k : Nat, i = .int .i64 k ∧ k + g = 3 ∧ f = .bool (okTo s k) ∧ Fm w s r wr)
  case atStart => exact ⟨0, rfl, by omega, rfl, hF⟩
  case round =>
    clear hF
    obtain ⟨k, rfl, hk, rfl, hF⟩ := hrel
    by_cases hlt : k < 3
    · have ix := HIX.out k hlt
      have hs := okTo_succ s hlt
      obtain ⟨c, hc⟩ : ∃ c, s.get k = c := ⟨_, rfl⟩
      rw [hc] at ix hs
      unfold okC at hs
      have HS := Lib.hid hs
      have HF := Lib.hid hF
      have hz := hF.z
      have s5 : (0 : Int) ≤ k := by omega
      have s6 : (k : Int) < 3 := by omega
      clear hc hs hF
      cases hf : okTo s k with
      | false =>
        go_wp2_with fail
        go_roundg (gk - 1)
        case measure => omega
        case rel => exact ⟨k + 1, by go_num, by omega, by rw [HS.out, hf]; simp, HF.out.alloc _⟩
      | true =>
        cases ha : vld c.a with
        | false =>
          go_wp2_with (go_at_call 32; refine (valid_any _ _).mono ?_; rintro e w1 ⟨rfl, rfl⟩)
          go_roundg (gk - 1)
          case measure => omega
          case rel => exact ⟨k + 1, by go_num, by omega, by rw [HS.out, hf, ha]; simp, HF.out.alloc _⟩
        | true =>
          go_wp2_with (go_at_call 32; refine (valid_any _ _).mono ?_; rintro e w1 ⟨rfl, rfl⟩)
          go_roundg (gk - 1)
          case measure => omega
          case rel => exact ⟨k + 1, by go_num, by omega, by rw [HS.out, hf, ha]; simp, HF.out.alloc _⟩
    · obtain rfl : k = 3 := by omega
      rw [okTo_3]
      clear HIX
      obtain ⟨p0, p1, hzp1, hB⟩ := hF
      have hzp0 := lt_s hzp1
      obtain ⟨p0c0, p0c1, p0c2, p0c3, p0c4, p0c5⟩ := st6 p0
      obtain ⟨p1c0, p1c1, p1c2⟩ := st3 p1
      have c0 := fun w => echeck_any s w
      have c1 := fun w => again_any key s r w
      have c2 := fun w => strp_any n s w
      have c3 := fun w => read_any s w
      cases hs : okS s with
      | false =>
        obtain ⟨f1, f2, f3⟩ := form_bad key n hs
        rw [chS_1 hs] at c0 c3
        rw [f3] at c3
        replace c3 : ∀ w : World, Calls Try.prog 24 #[s.val] w fun e w' => e = .returned (.tuple #[.agg #[.int .i64 0, .int .i64 0, .int .i64 0], .int .i64 100]) ∧ Below w.heap.size w w' := c3
        have b1 : ∀ w : World, (Op.equalIn 10000 30 (.agg #[.int .i64 0, .int .i64 0, .int .i64 0]) (.agg #[.int .i64 0, .int .i64 0, .int .i64 0])).run Try.prog w = .ok true w := fun w => by kernel_rfl
        generalize againC key s r = x at c1
        generalize againE key s = e1 at c1 f1
        generalize strpC n s = y at c2
        generalize strpE n s = e2 at c2 f2
        unfold Se.val Tr.val at *
        have H0 := Lib.hid c0
        have H1 := Lib.hid c1
        have H2 := Lib.hid c2
        have H3 := Lib.hid c3
        clear c0 c1 c2 c3 hs f3
        go_wp2_with (first
          | (go_at_call 25; (with_reducible refine (H0.out _).mono ?_); rintro e w1 ⟨rfl, hb⟩; obtain ⟨hB, hzn, hk⟩ := step0 hB hb; replace p0 := hk _ _ _ p0; replace hzp0 := lt_t hzp0 hzn; replace p1 := hk _ _ _ p1; replace hzp1 := lt_t hzp1 hzn; clear hzn hk hb; clear p0c0 p0c1 p0c2 p0c3 p0c4 p0c5 p1c0 p1c1 p1c2; obtain ⟨p0c0, p0c1, p0c2, p0c3, p0c4, p0c5⟩ := st6 p0; obtain ⟨p1c0, p1c1, p1c2⟩ := st3 p1)
          | (go_at_call 18; (with_reducible refine (H1.out _).mono ?_); rintro e w2 ⟨rfl, hb⟩; obtain ⟨hB, hzn, hk⟩ := step0 hB hb; replace p0 := hk _ _ _ p0; replace hzp0 := lt_t hzp0 hzn; replace p1 := hk _ _ _ p1; replace hzp1 := lt_t hzp1 hzn; clear hzn hk hb; clear p0c0 p0c1 p0c2 p0c3 p0c4 p0c5 p1c0 p1c1 p1c2; obtain ⟨p0c0, p0c1, p0c2, p0c3, p0c4, p0c5⟩ := st6 p0; obtain ⟨p1c0, p1c1, p1c2⟩ := st3 p1)
          | (go_at_call 23; (with_reducible refine (H2.out _).mono ?_); rintro e w3 ⟨rfl, hb⟩; obtain ⟨hB, hzn, hk, r3⟩ := step1 hB hb; replace p0 := hk _ _ _ p0; replace hzp0 := lt_t hzp0 (Nat.le_of_lt hzn); replace p1 := hk _ _ _ p1; replace hzp1 := lt_t hzp1 (Nat.le_of_lt hzn); have hzr3 := hzn; clear hzn hk hb; clear p0c0 p0c1 p0c2 p0c3 p0c4 p0c5 p1c0 p1c1 p1c2; obtain ⟨p0c0, p0c1, p0c2, p0c3, p0c4, p0c5⟩ := st6 p0; obtain ⟨p1c0, p1c1, p1c2⟩ := st3 p1; obtain ⟨r3c0, r3c1, r3c2, r3c3, r3c4, r3c5⟩ := st6 r3)
          | (go_at_call 24; (with_reducible refine (H3.out _).mono ?_); rintro e w4 ⟨rfl, hb⟩; obtain ⟨hB, hzn, hk, r4⟩ := step1 hB hb; replace p0 := hk _ _ _ p0; replace hzp0 := lt_t hzp0 (Nat.le_of_lt hzn); replace p1 := hk _ _ _ p1; replace hzp1 := lt_t hzp1 (Nat.le_of_lt hzn); replace r3 := hk _ _ _ r3; replace hzr3 := lt_t hzr3 (Nat.le_of_lt hzn); have hzr4 := hzn; clear hzn hk hb; clear p0c0 p0c1 p0c2 p0c3 p0c4 p0c5 p1c0 p1c1 p1c2 r3c0 r3c1 r3c2 r3c3 r3c4 r3c5; obtain ⟨p0c0, p0c1, p0c2, p0c3, p0c4, p0c5⟩ := st6 p0; obtain ⟨p1c0, p1c1, p1c2⟩ := st3 p1; obtain ⟨r3c0, r3c1, r3c2, r3c3, r3c4, r3c5⟩ := st6 r3; obtain ⟨r4c0, r4c1, r4c2, r4c3, r4c4, r4c5⟩ := st6 r4))
        go_ret
        exact ⟨rfl, hB.alloc hB.size _⟩
      | true =>
        rw [chS_0 hs] at c0 c3
        obtain ⟨⟨v1, v2⟩, ⟨v3, v4⟩, ⟨v5, v6⟩⟩ : (vld s.x.a = true ∧ vld s.x.b = true) ∧ (vld s.y.a = true ∧ vld s.y.b = true) ∧ (vld s.z.a = true ∧ vld s.z.b = true) := by
          obtain ⟨h1, h2, h3⟩ := okS_iff.1 hs; exact ⟨okC_iff.1 h1, okC_iff.1 h2, okC_iff.1 h3⟩
        have e1 := fun w => element_any (numC s.x.b) w
        have e2 := fun w => element_any (numC s.y.b) w
        have e3 := fun w => element_any (numC s.z.b) w
        rw [(el_back v2).1, (el_back v2).2] at e1
        rw [(el_back v4).1, (el_back v4).2] at e2
        rw [(el_back v6).1, (el_back v6).2] at e3
        have hr : readC s = ⟨numC s.x.b, numC s.y.b, numC s.z.b⟩ := by unfold readC; rw [hs]; rfl
        rw [hr] at c3
        generalize numC s.x.b = n1 at c3 e1
        generalize numC s.y.b = n2 at c3 e2
        generalize numC s.z.b = n3 at c3 e3
        replace c3 : ∀ w : World, Calls Try.prog 24 #[s.val] w fun e w' => e = .returned (.tuple #[.agg #[.int .i64 n1, .int .i64 n2, .int .i64 n3], .int .i64 0]) ∧ Below w.heap.size w w' := c3
        have jx0 := fun w => idx0 ⟨n1, n2, n3⟩ w
        have jx1 := fun w => idx1 ⟨n1, n2, n3⟩ w
        have jx2 := fun w => idx2 ⟨n1, n2, n3⟩ w
        simp only at jx0 jx1 jx2
        have h1 : (vld key = true ∧ againE key s = 0 ∧ okS (againC key s r) = true) ∨ (againE key s = 90) := by
          unfold againE againC
          cases hv : vld key with
          | true => exact .inl ⟨rfl, chS_0 hs, by rw [hs]; exact okS_more hv hs⟩
          | false => exact .inr rfl
        have h2 : (secB n = true ∧ strpE n s = 0 ∧ okS (strpC n s) = true) ∨ (strpE n s = 110) := by
          unfold strpE strpC
          cases hv : secB n with
          | true => exact .inl ⟨rfl, chS_0 hs, by rw [hs]; exact okS_strip hs⟩
          | false => exact .inr rfl
        have c4 := fun w => echeck_any (againC key s r) w
        have c5 := fun w => echeck_any (strpC n s) w
        clear v1 v2 v3 v4 v5 v6 hr
        rcases h1 with ⟨_, h1, h1'⟩ | h1 <;> rcases h2 with ⟨_, h2, h2'⟩ | h2
        · rw [h1] at c1
          rw [h2] at c2
          rw [chS_0 h1'] at c4
          rw [chS_0 h2'] at c5
          generalize againC key s r = x at *
          generalize strpC n s = y at *
          unfold Se.val Tr.val at *
          have H0 := Lib.hid c0
          have H1 := Lib.hid c1
          have H2 := Lib.hid c2
          have H3 := Lib.hid c3
          have H4 := Lib.hid c4
          clear c4
          have H5 := Lib.hid c5
          clear c5
          have E1 := Lib.hid e1
          have E2 := Lib.hid e2
          have E3 := Lib.hid e3
          clear c0 c1 c2 c3 hs h1 h2 e1 e2 e3
          go_wp2_with (first
        | (go_at_call 25; (with_reducible refine (H0.out _).mono ?_); rintro e w1 ⟨rfl, hb⟩; obtain ⟨hB, hzn, hk⟩ := step0 hB hb; replace p0 := hk _ _ _ p0; replace hzp0 := lt_t hzp0 hzn; replace p1 := hk _ _ _ p1; replace hzp1 := lt_t hzp1 hzn; clear hzn hk hb; clear p0c0 p0c1 p0c2 p0c3 p0c4 p0c5 p1c0 p1c1 p1c2; obtain ⟨p0c0, p0c1, p0c2, p0c3, p0c4, p0c5⟩ := st6 p0; obtain ⟨p1c0, p1c1, p1c2⟩ := st3 p1)
        | (go_at_call 18; (with_reducible refine (H1.out _).mono ?_); rintro e w2 ⟨rfl, hb⟩; obtain ⟨hB, hzn, hk⟩ := step0 hB hb; replace p0 := hk _ _ _ p0; replace hzp0 := lt_t hzp0 hzn; replace p1 := hk _ _ _ p1; replace hzp1 := lt_t hzp1 hzn; clear hzn hk hb; clear p0c0 p0c1 p0c2 p0c3 p0c4 p0c5 p1c0 p1c1 p1c2; obtain ⟨p0c0, p0c1, p0c2, p0c3, p0c4, p0c5⟩ := st6 p0; obtain ⟨p1c0, p1c1, p1c2⟩ := st3 p1)
        | (go_at_call 23; (with_reducible refine (H2.out _).mono ?_); rintro e w3 ⟨rfl, hb⟩; obtain ⟨hB, hzn, hk, r3⟩ := step1 hB hb; replace p0 := hk _ _ _ p0; replace hzp0 := lt_t hzp0 (Nat.le_of_lt hzn); replace p1 := hk _ _ _ p1; replace hzp1 := lt_t hzp1 (Nat.le_of_lt hzn); have hzr3 := hzn; clear hzn hk hb; clear p0c0 p0c1 p0c2 p0c3 p0c4 p0c5 p1c0 p1c1 p1c2; obtain ⟨p0c0, p0c1, p0c2, p0c3, p0c4, p0c5⟩ := st6 p0; obtain ⟨p1c0, p1c1, p1c2⟩ := st3 p1; obtain ⟨r3c0, r3c1, r3c2, r3c3, r3c4, r3c5⟩ := st6 r3)
        | (go_at_call 24; (with_reducible refine (H3.out _).mono ?_); rintro e w4 ⟨rfl, hb⟩; obtain ⟨hB, hzn, hk, r4⟩ := step1 hB hb; replace p0 := hk _ _ _ p0; replace hzp0 := lt_t hzp0 (Nat.le_of_lt hzn); replace p1 := hk _ _ _ p1; replace hzp1 := lt_t hzp1 (Nat.le_of_lt hzn); replace r3 := hk _ _ _ r3; replace hzr3 := lt_t hzr3 (Nat.le_of_lt hzn); have hzr4 := hzn; clear hzn hk hb; clear p0c0 p0c1 p0c2 p0c3 p0c4 p0c5 p1c0 p1c1 p1c2 r3c0 r3c1 r3c2 r3c3 r3c4 r3c5; obtain ⟨p0c0, p0c1, p0c2, p0c3, p0c4, p0c5⟩ := st6 p0; obtain ⟨p1c0, p1c1, p1c2⟩ := st3 p1; obtain ⟨r3c0, r3c1, r3c2, r3c3, r3c4, r3c5⟩ := st6 r3; obtain ⟨r4c0, r4c1, r4c2, r4c3, r4c4, r4c5⟩ := st6 r4)
        | (go_at_call 25; (with_reducible refine (H4.out _).mono ?_); rintro e w5 ⟨rfl, hb⟩; obtain ⟨hB, hzn, hk, r5⟩ := step1 hB hb; replace p0 := hk _ _ _ p0; replace hzp0 := lt_t hzp0 (Nat.le_of_lt hzn); replace p1 := hk _ _ _ p1; replace hzp1 := lt_t hzp1 (Nat.le_of_lt hzn); replace r3 := hk _ _ _ r3; replace hzr3 := lt_t hzr3 (Nat.le_of_lt hzn); replace r4 := hk _ _ _ r4; replace hzr4 := lt_t hzr4 (Nat.le_of_lt hzn); have hzr5 := hzn; clear hzn hk hb; clear p0c0 p0c1 p0c2 p0c3 p0c4 p0c5 p1c0 p1c1 p1c2 r3c0 r3c1 r3c2 r3c3 r3c4 r3c5 r4c0 r4c1 r4c2 r4c3 r4c4 r4c5; obtain ⟨p0c0, p0c1, p0c2, p0c3, p0c4, p0c5⟩ := st6 p0; obtain ⟨p1c0, p1c1, p1c2⟩ := st3 p1; obtain ⟨r3c0, r3c1, r3c2, r3c3, r3c4, r3c5⟩ := st6 r3; obtain ⟨r4c0, r4c1, r4c2, r4c3, r4c4, r4c5⟩ := st6 r4; obtain ⟨r5c0, r5c1, r5c2⟩ := st3 r5)
        | (go_at_call 25; (with_reducible refine (H5.out _).mono ?_); rintro e w6 ⟨rfl, hb⟩; obtain ⟨hB, hzn, hk⟩ := step0 hB hb; replace p0 := hk _ _ _ p0; replace hzp0 := lt_t hzp0 hzn; replace p1 := hk _ _ _ p1; replace hzp1 := lt_t hzp1 hzn; replace r3 := hk _ _ _ r3; replace hzr3 := lt_t hzr3 hzn; replace r4 := hk _ _ _ r4; replace hzr4 := lt_t hzr4 hzn; replace r5 := hk _ _ _ r5; replace hzr5 := lt_t hzr5 hzn; clear hzn hk hb; clear p0c0 p0c1 p0c2 p0c3 p0c4 p0c5 p1c0 p1c1 p1c2 r3c0 r3c1 r3c2 r3c3 r3c4 r3c5 r4c0 r4c1 r4c2 r4c3 r4c4 r4c5 r5c0 r5c1 r5c2; obtain ⟨p0c0, p0c1, p0c2, p0c3, p0c4, p0c5⟩ := st6 p0; obtain ⟨p1c0, p1c1, p1c2⟩ := st3 p1; obtain ⟨r3c0, r3c1, r3c2, r3c3, r3c4, r3c5⟩ := st6 r3; obtain ⟨r4c0, r4c1, r4c2, r4c3, r4c4, r4c5⟩ := st6 r4; obtain ⟨r5c0, r5c1, r5c2⟩ := st3 r5))
          refine wp_loop_rounds 4 ?_
          rw [rounds_succ]
          go_wp2_with (go_at_call 28; refine (E1.out _).mono ?_; rintro e wq ⟨rfl, rfl⟩)
          rw [rounds_succ]
          go_wp2_with (go_at_call 28; refine (E2.out _).mono ?_; rintro e wq ⟨rfl, rfl⟩)
          rw [rounds_succ]
          go_wp2_with (go_at_call 28; refine (E3.out _).mono ?_; rintro e wq ⟨rfl, rfl⟩)
          rw [rounds_succ]
          go_wp2_with fail
          go_ret
          first | exact ⟨rfl, hB⟩ | exact ⟨rfl, hB.alloc hB.size _⟩
        · rw [h1] at c1
          rw [h2] at c2
          rw [chS_0 h1'] at c4
          clear c5
          generalize againC key s r = x at *
          generalize strpC n s = y at *
          unfold Se.val Tr.val at *
          have H0 := Lib.hid c0
          have H1 := Lib.hid c1
          have H2 := Lib.hid c2
          have H3 := Lib.hid c3
          have H4 := Lib.hid c4
          clear c4
          have E1 := Lib.hid e1
          have E2 := Lib.hid e2
          have E3 := Lib.hid e3
          clear c0 c1 c2 c3 hs h1 h2 e1 e2 e3
          go_wp2_with (first
        | (go_at_call 25; (with_reducible refine (H0.out _).mono ?_); rintro e w1 ⟨rfl, hb⟩; obtain ⟨hB, hzn, hk⟩ := step0 hB hb; replace p0 := hk _ _ _ p0; replace hzp0 := lt_t hzp0 hzn; replace p1 := hk _ _ _ p1; replace hzp1 := lt_t hzp1 hzn; clear hzn hk hb; clear p0c0 p0c1 p0c2 p0c3 p0c4 p0c5 p1c0 p1c1 p1c2; obtain ⟨p0c0, p0c1, p0c2, p0c3, p0c4, p0c5⟩ := st6 p0; obtain ⟨p1c0, p1c1, p1c2⟩ := st3 p1)
        | (go_at_call 18; (with_reducible refine (H1.out _).mono ?_); rintro e w2 ⟨rfl, hb⟩; obtain ⟨hB, hzn, hk⟩ := step0 hB hb; replace p0 := hk _ _ _ p0; replace hzp0 := lt_t hzp0 hzn; replace p1 := hk _ _ _ p1; replace hzp1 := lt_t hzp1 hzn; clear hzn hk hb; clear p0c0 p0c1 p0c2 p0c3 p0c4 p0c5 p1c0 p1c1 p1c2; obtain ⟨p0c0, p0c1, p0c2, p0c3, p0c4, p0c5⟩ := st6 p0; obtain ⟨p1c0, p1c1, p1c2⟩ := st3 p1)
        | (go_at_call 23; (with_reducible refine (H2.out _).mono ?_); rintro e w3 ⟨rfl, hb⟩; obtain ⟨hB, hzn, hk, r3⟩ := step1 hB hb; replace p0 := hk _ _ _ p0; replace hzp0 := lt_t hzp0 (Nat.le_of_lt hzn); replace p1 := hk _ _ _ p1; replace hzp1 := lt_t hzp1 (Nat.le_of_lt hzn); have hzr3 := hzn; clear hzn hk hb; clear p0c0 p0c1 p0c2 p0c3 p0c4 p0c5 p1c0 p1c1 p1c2; obtain ⟨p0c0, p0c1, p0c2, p0c3, p0c4, p0c5⟩ := st6 p0; obtain ⟨p1c0, p1c1, p1c2⟩ := st3 p1; obtain ⟨r3c0, r3c1, r3c2, r3c3, r3c4, r3c5⟩ := st6 r3)
        | (go_at_call 24; (with_reducible refine (H3.out _).mono ?_); rintro e w4 ⟨rfl, hb⟩; obtain ⟨hB, hzn, hk, r4⟩ := step1 hB hb; replace p0 := hk _ _ _ p0; replace hzp0 := lt_t hzp0 (Nat.le_of_lt hzn); replace p1 := hk _ _ _ p1; replace hzp1 := lt_t hzp1 (Nat.le_of_lt hzn); replace r3 := hk _ _ _ r3; replace hzr3 := lt_t hzr3 (Nat.le_of_lt hzn); have hzr4 := hzn; clear hzn hk hb; clear p0c0 p0c1 p0c2 p0c3 p0c4 p0c5 p1c0 p1c1 p1c2 r3c0 r3c1 r3c2 r3c3 r3c4 r3c5; obtain ⟨p0c0, p0c1, p0c2, p0c3, p0c4, p0c5⟩ := st6 p0; obtain ⟨p1c0, p1c1, p1c2⟩ := st3 p1; obtain ⟨r3c0, r3c1, r3c2, r3c3, r3c4, r3c5⟩ := st6 r3; obtain ⟨r4c0, r4c1, r4c2, r4c3, r4c4, r4c5⟩ := st6 r4)
        | (go_at_call 25; (with_reducible refine (H4.out _).mono ?_); rintro e w5 ⟨rfl, hb⟩; obtain ⟨hB, hzn, hk, r5⟩ := step1 hB hb; replace p0 := hk _ _ _ p0; replace hzp0 := lt_t hzp0 (Nat.le_of_lt hzn); replace p1 := hk _ _ _ p1; replace hzp1 := lt_t hzp1 (Nat.le_of_lt hzn); replace r3 := hk _ _ _ r3; replace hzr3 := lt_t hzr3 (Nat.le_of_lt hzn); replace r4 := hk _ _ _ r4; replace hzr4 := lt_t hzr4 (Nat.le_of_lt hzn); have hzr5 := hzn; clear hzn hk hb; clear p0c0 p0c1 p0c2 p0c3 p0c4 p0c5 p1c0 p1c1 p1c2 r3c0 r3c1 r3c2 r3c3 r3c4 r3c5 r4c0 r4c1 r4c2 r4c3 r4c4 r4c5; obtain ⟨p0c0, p0c1, p0c2, p0c3, p0c4, p0c5⟩ := st6 p0; obtain ⟨p1c0, p1c1, p1c2⟩ := st3 p1; obtain ⟨r3c0, r3c1, r3c2, r3c3, r3c4, r3c5⟩ := st6 r3; obtain ⟨r4c0, r4c1, r4c2, r4c3, r4c4, r4c5⟩ := st6 r4; obtain ⟨r5c0, r5c1, r5c2⟩ := st3 r5))
          refine wp_loop_rounds 4 ?_
          rw [rounds_succ]
          go_wp2_with (go_at_call 28; refine (E1.out _).mono ?_; rintro e wq ⟨rfl, rfl⟩)
          rw [rounds_succ]
          go_wp2_with (go_at_call 28; refine (E2.out _).mono ?_; rintro e wq ⟨rfl, rfl⟩)
          rw [rounds_succ]
          go_wp2_with (go_at_call 28; refine (E3.out _).mono ?_; rintro e wq ⟨rfl, rfl⟩)
          rw [rounds_succ]
          go_wp2_with fail
          go_ret
          first | exact ⟨rfl, hB⟩ | exact ⟨rfl, hB.alloc hB.size _⟩
        · rw [h1] at c1
          rw [h2] at c2
          clear c4
          rw [chS_0 h2'] at c5
          generalize againC key s r = x at *
          generalize strpC n s = y at *
          unfold Se.val Tr.val at *
          have H0 := Lib.hid c0
          have H1 := Lib.hid c1
          have H2 := Lib.hid c2
          have H3 := Lib.hid c3
          have H5 := Lib.hid c5
          clear c5
          have E1 := Lib.hid e1
          have E2 := Lib.hid e2
          have E3 := Lib.hid e3
          clear c0 c1 c2 c3 hs h1 h2 e1 e2 e3
          go_wp2_with (first
        | (go_at_call 25; (with_reducible refine (H0.out _).mono ?_); rintro e w1 ⟨rfl, hb⟩; obtain ⟨hB, hzn, hk⟩ := step0 hB hb; replace p0 := hk _ _ _ p0; replace hzp0 := lt_t hzp0 hzn; replace p1 := hk _ _ _ p1; replace hzp1 := lt_t hzp1 hzn; clear hzn hk hb; clear p0c0 p0c1 p0c2 p0c3 p0c4 p0c5 p1c0 p1c1 p1c2; obtain ⟨p0c0, p0c1, p0c2, p0c3, p0c4, p0c5⟩ := st6 p0; obtain ⟨p1c0, p1c1, p1c2⟩ := st3 p1)
        | (go_at_call 18; (with_reducible refine (H1.out _).mono ?_); rintro e w2 ⟨rfl, hb⟩; obtain ⟨hB, hzn, hk⟩ := step0 hB hb; replace p0 := hk _ _ _ p0; replace hzp0 := lt_t hzp0 hzn; replace p1 := hk _ _ _ p1; replace hzp1 := lt_t hzp1 hzn; clear hzn hk hb; clear p0c0 p0c1 p0c2 p0c3 p0c4 p0c5 p1c0 p1c1 p1c2; obtain ⟨p0c0, p0c1, p0c2, p0c3, p0c4, p0c5⟩ := st6 p0; obtain ⟨p1c0, p1c1, p1c2⟩ := st3 p1)
        | (go_at_call 23; (with_reducible refine (H2.out _).mono ?_); rintro e w3 ⟨rfl, hb⟩; obtain ⟨hB, hzn, hk, r3⟩ := step1 hB hb; replace p0 := hk _ _ _ p0; replace hzp0 := lt_t hzp0 (Nat.le_of_lt hzn); replace p1 := hk _ _ _ p1; replace hzp1 := lt_t hzp1 (Nat.le_of_lt hzn); have hzr3 := hzn; clear hzn hk hb; clear p0c0 p0c1 p0c2 p0c3 p0c4 p0c5 p1c0 p1c1 p1c2; obtain ⟨p0c0, p0c1, p0c2, p0c3, p0c4, p0c5⟩ := st6 p0; obtain ⟨p1c0, p1c1, p1c2⟩ := st3 p1; obtain ⟨r3c0, r3c1, r3c2, r3c3, r3c4, r3c5⟩ := st6 r3)
        | (go_at_call 24; (with_reducible refine (H3.out _).mono ?_); rintro e w4 ⟨rfl, hb⟩; obtain ⟨hB, hzn, hk, r4⟩ := step1 hB hb; replace p0 := hk _ _ _ p0; replace hzp0 := lt_t hzp0 (Nat.le_of_lt hzn); replace p1 := hk _ _ _ p1; replace hzp1 := lt_t hzp1 (Nat.le_of_lt hzn); replace r3 := hk _ _ _ r3; replace hzr3 := lt_t hzr3 (Nat.le_of_lt hzn); have hzr4 := hzn; clear hzn hk hb; clear p0c0 p0c1 p0c2 p0c3 p0c4 p0c5 p1c0 p1c1 p1c2 r3c0 r3c1 r3c2 r3c3 r3c4 r3c5; obtain ⟨p0c0, p0c1, p0c2, p0c3, p0c4, p0c5⟩ := st6 p0; obtain ⟨p1c0, p1c1, p1c2⟩ := st3 p1; obtain ⟨r3c0, r3c1, r3c2, r3c3, r3c4, r3c5⟩ := st6 r3; obtain ⟨r4c0, r4c1, r4c2, r4c3, r4c4, r4c5⟩ := st6 r4)
        | (go_at_call 25; (with_reducible refine (H5.out _).mono ?_); rintro e w5 ⟨rfl, hb⟩; obtain ⟨hB, hzn, hk, r5⟩ := step1 hB hb; replace p0 := hk _ _ _ p0; replace hzp0 := lt_t hzp0 (Nat.le_of_lt hzn); replace p1 := hk _ _ _ p1; replace hzp1 := lt_t hzp1 (Nat.le_of_lt hzn); replace r3 := hk _ _ _ r3; replace hzr3 := lt_t hzr3 (Nat.le_of_lt hzn); replace r4 := hk _ _ _ r4; replace hzr4 := lt_t hzr4 (Nat.le_of_lt hzn); have hzr5 := hzn; clear hzn hk hb; clear p0c0 p0c1 p0c2 p0c3 p0c4 p0c5 p1c0 p1c1 p1c2 r3c0 r3c1 r3c2 r3c3 r3c4 r3c5 r4c0 r4c1 r4c2 r4c3 r4c4 r4c5; obtain ⟨p0c0, p0c1, p0c2, p0c3, p0c4, p0c5⟩ := st6 p0; obtain ⟨p1c0, p1c1, p1c2⟩ := st3 p1; obtain ⟨r3c0, r3c1, r3c2, r3c3, r3c4, r3c5⟩ := st6 r3; obtain ⟨r4c0, r4c1, r4c2, r4c3, r4c4, r4c5⟩ := st6 r4; obtain ⟨r5c0, r5c1, r5c2⟩ := st3 r5))
          refine wp_loop_rounds 4 ?_
          rw [rounds_succ]
          go_wp2_with (go_at_call 28; refine (E1.out _).mono ?_; rintro e wq ⟨rfl, rfl⟩)
          rw [rounds_succ]
          go_wp2_with (go_at_call 28; refine (E2.out _).mono ?_; rintro e wq ⟨rfl, rfl⟩)
          rw [rounds_succ]
          go_wp2_with (go_at_call 28; refine (E3.out _).mono ?_; rintro e wq ⟨rfl, rfl⟩)
          rw [rounds_succ]
          go_wp2_with fail
          go_ret
          first | exact ⟨rfl, hB⟩ | exact ⟨rfl, hB.alloc hB.size _⟩
        · rw [h1] at c1
          rw [h2] at c2
          clear c4
          clear c5
          generalize againC key s r = x at *
          generalize strpC n s = y at *
          unfold Se.val Tr.val at *
          have H0 := Lib.hid c0
          have H1 := Lib.hid c1
          have H2 := Lib.hid c2
          have H3 := Lib.hid c3
          have E1 := Lib.hid e1
          have E2 := Lib.hid e2
          have E3 := Lib.hid e3
          clear c0 c1 c2 c3 hs h1 h2 e1 e2 e3
          go_wp2_with (first
        | (go_at_call 25; (with_reducible refine (H0.out _).mono ?_); rintro e w1 ⟨rfl, hb⟩; obtain ⟨hB, hzn, hk⟩ := step0 hB hb; replace p0 := hk _ _ _ p0; replace hzp0 := lt_t hzp0 hzn; replace p1 := hk _ _ _ p1; replace hzp1 := lt_t hzp1 hzn; clear hzn hk hb; clear p0c0 p0c1 p0c2 p0c3 p0c4 p0c5 p1c0 p1c1 p1c2; obtain ⟨p0c0, p0c1, p0c2, p0c3, p0c4, p0c5⟩ := st6 p0; obtain ⟨p1c0, p1c1, p1c2⟩ := st3 p1)
        | (go_at_call 18; (with_reducible refine (H1.out _).mono ?_); rintro e w2 ⟨rfl, hb⟩; obtain ⟨hB, hzn, hk⟩ := step0 hB hb; replace p0 := hk _ _ _ p0; replace hzp0 := lt_t hzp0 hzn; replace p1 := hk _ _ _ p1; replace hzp1 := lt_t hzp1 hzn; clear hzn hk hb; clear p0c0 p0c1 p0c2 p0c3 p0c4 p0c5 p1c0 p1c1 p1c2; obtain ⟨p0c0, p0c1, p0c2, p0c3, p0c4, p0c5⟩ := st6 p0; obtain ⟨p1c0, p1c1, p1c2⟩ := st3 p1)
        | (go_at_call 23; (with_reducible refine (H2.out _).mono ?_); rintro e w3 ⟨rfl, hb⟩; obtain ⟨hB, hzn, hk, r3⟩ := step1 hB hb; replace p0 := hk _ _ _ p0; replace hzp0 := lt_t hzp0 (Nat.le_of_lt hzn); replace p1 := hk _ _ _ p1; replace hzp1 := lt_t hzp1 (Nat.le_of_lt hzn); have hzr3 := hzn; clear hzn hk hb; clear p0c0 p0c1 p0c2 p0c3 p0c4 p0c5 p1c0 p1c1 p1c2; obtain ⟨p0c0, p0c1, p0c2, p0c3, p0c4, p0c5⟩ := st6 p0; obtain ⟨p1c0, p1c1, p1c2⟩ := st3 p1; obtain ⟨r3c0, r3c1, r3c2, r3c3, r3c4, r3c5⟩ := st6 r3)
        | (go_at_call 24; (with_reducible refine (H3.out _).mono ?_); rintro e w4 ⟨rfl, hb⟩; obtain ⟨hB, hzn, hk, r4⟩ := step1 hB hb; replace p0 := hk _ _ _ p0; replace hzp0 := lt_t hzp0 (Nat.le_of_lt hzn); replace p1 := hk _ _ _ p1; replace hzp1 := lt_t hzp1 (Nat.le_of_lt hzn); replace r3 := hk _ _ _ r3; replace hzr3 := lt_t hzr3 (Nat.le_of_lt hzn); have hzr4 := hzn; clear hzn hk hb; clear p0c0 p0c1 p0c2 p0c3 p0c4 p0c5 p1c0 p1c1 p1c2 r3c0 r3c1 r3c2 r3c3 r3c4 r3c5; obtain ⟨p0c0, p0c1, p0c2, p0c3, p0c4, p0c5⟩ := st6 p0; obtain ⟨p1c0, p1c1, p1c2⟩ := st3 p1; obtain ⟨r3c0, r3c1, r3c2, r3c3, r3c4, r3c5⟩ := st6 r3; obtain ⟨r4c0, r4c1, r4c2, r4c3, r4c4, r4c5⟩ := st6 r4))
          refine wp_loop_rounds 4 ?_
          rw [rounds_succ]
          go_wp2_with (go_at_call 28; refine (E1.out _).mono ?_; rintro e wq ⟨rfl, rfl⟩)
          rw [rounds_succ]
          go_wp2_with (go_at_call 28; refine (E2.out _).mono ?_; rintro e wq ⟨rfl, rfl⟩)
          rw [rounds_succ]
          go_wp2_with (go_at_call 28; refine (E3.out _).mono ?_; rintro e wq ⟨rfl, rfl⟩)
          rw [rounds_succ]
          go_wp2_with fail
          go_ret
          first | exact ⟨rfl, hB⟩ | exact ⟨rfl, hB.alloc hB.size _⟩
end Go.Proofs.Ytlbnbginippjfaa
