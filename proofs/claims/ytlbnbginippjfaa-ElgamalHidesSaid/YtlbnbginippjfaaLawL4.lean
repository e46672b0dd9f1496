import Derived.Test.YtlbnbginippjfaaElT
import Derived.Test.YtlbnbginippjfaaElH
import Derived.Test.YtlbnbginippjfaaLawL3
import Derived.Deep.QuietTactic
import Derived.BigQuiet
import Derived.WalkSmall
set_option linter.unusedSimpArgs false
set_option linter.unusedVariables false
namespace Go.Proofs.Ytlbnbginippjfaa
open Go.RowKit Fk
theorem step_set {w w1 w2 : World} {o : Obj} {k : Nat} {v : Value} (hB : Below w.heap.size w w1) (hb : Below ((w1.alloc o).setCell ⟨w1.heap.size, k, none⟩ v).heap.size ((w1.alloc o).setCell ⟨w1.heap.size, k, none⟩ v) w2) :
    Below w.heap.size w w2 ∧ w1.heap.size ≤ w2.heap.size ∧ (∀ g t vs, Row w1 g t vs → Row w2 g t vs) := by
  have hz := hB.size
  have h1 : ((w1.alloc o).setCell ⟨w1.heap.size, k, none⟩ v).heap.size = w1.heap.size + 1 := by simp
  have h2 := hb.size
  refine ⟨((hB.alloc hz o).setCell hz v).trans (hb.mono (by omega)), by omega, fun g t vs h => ?_⟩
  have hl := Row.lt h
  exact Row.keep (Row.oth (h.alloc o) (by omega) v) (hb.block _ (by omega))
theorem emod_ne {n : Int} (h : n.tmod 1073741789 ≠ 0) : n % 1073741789 ≠ 0 := fun h' => h (Int.tmod_eq_zero_of_dvd (Int.dvd_of_emod_eq_zero h'))
structure Hd (w : World) (m : Nat) (t r : Tr) (k : Nat) (W : World) : Prop where
  p0 : Row W w.heap.size 30 t.cells
  p1 : Row W (w.heap.size + 1) 51 (cells32 r)
  d0 : Row W m 29 (toT r k).cells
  hm : w.heap.size + 1 < m
  b : Below w.heap.size w W
theorem Hd.start {w W : World} {t r : Tr} (p0 : Row W w.heap.size 30 t.cells) (p1 : Row W (w.heap.size + 1) 51 (cells32 r)) (hm : w.heap.size + 1 < W.heap.size) (hb : Below w.heap.size w W) :
    Hd w W.heap.size t r 0 (W.alloc (.cells (toT r 0).cells.toArray 29)) :=
  ⟨p0.alloc _, p1.alloc _, Row.new W _ _, hm, hb.alloc hb.size _⟩
theorem Hd.next {w W : World} {m k : Nat} {t r : Tr} {x : Int} (h : Hd w m t r k W) (z0 : (toT r k).cells.set k (.int .i64 x) = (toT r (k + 1)).cells) : Hd w m t r (k + 1) (W.setCell ⟨m, k, none⟩ (.int .i64 x)) := by
  have hm := h.hm
  refine ⟨Row.oth h.p0 (by omega) _, Row.oth h.p1 (by omega) _, ?_, hm, h.b.setCell (by show _ ≤ m; omega) _⟩
  rw [← z0]; exact Row.store h.d0 k _
set_option maxRecDepth 100000 in
set_option maxHeartbeats 4000000 in
theorem hides_main0 (key o n : Int) (t r : Tr) (hr : wf32 r) (hn : 0 ≤ n ∧ n ≤ 255) (hi : n % 3 = 0) (hv : vld key = true) (hw : wOK t = true) (o1 : 1 ≤ o) (o2 : o ≤ 1073741789) (hq : r.p.tmod 1073741789 ≠ 0) (w : World) :
    Calls Try.prog 8 #[.int .i64 key, t.val, val32 r, .int .i64 o, .int .u8 n] w fun e w' => e = .returned (.bool true) ∧ Below w.heap.size w w' := by
  obtain ⟨S, T, x, bk, m0, iv, sd, he, c1, c2, c3, c4, c5, c6, c7⟩ := hides_calls hv hw (k := 0) (by omega) o1 o2 (emod_ne hq)
  obtain ⟨⟨a0, b0⟩, ⟨a1, b1⟩, ⟨a2, b2⟩⟩ := S
  obtain ⟨⟨a3, b3⟩, ⟨a4, b4⟩, ⟨a5, b5⟩⟩ := T
  have he' : (⟨a3, b3⟩ : Ci) = ⟨a0, b0⟩ := he
  injection he' with ea eb
  subst ea eb
  clear he
  replace c4 : ∀ w : World, Calls Try.prog 30 #[.int .i64 b3, .int .i64 bk] w fun e w' => e = .returned (.tuple #[.int .i64 m0, .int .i64 0]) ∧ w = w' := c4
  replace c5 : ∀ w : World, Calls Try.prog 31 #[.int .i64 r.p] w fun e w' => e = .returned (.int .i64 iv) ∧ w = w' := c5
  replace c7 : ∀ w : World, Calls Try.prog 16 #[.int .i64 sd, .agg #[.int .i64 o, .int .i64 t.q, .int .i64 t.r], r.val] w fun e w' => e = .returned (.tuple #[(⟨⟨a3, b3⟩, ⟨a4, b4⟩, ⟨a5, b5⟩⟩ : Se).val, .int .i64 0]) ∧ Below w.heap.size w w' := c7
  unfold Se.val Tr.val at c1 c7
  simp only at c1 c7
  have b1' := fun w => runC 9998 ⟨a3, b3⟩ ⟨a3, b3⟩ w
  rw [eqCi_self] at b1'
  replace b1' : ∀ w : World, (Op.equalIn 10000 32 (.agg #[.int .i64 a3, .int .i64 b3]) (.agg #[.int .i64 a3, .int .i64 b3])).run Try.prog w = .ok true w := b1'
  have c8 := fun w => words_any t w
  rw [hw] at c8
  have hq' : (r.p.tmod 1073741789 == 0) = false := by simpa using hq
  have hst := fun W => @Hd.start w W t r
  have HST := Lib.hid hst
  have ka := fun k => wf32_bd hr k
  have bi : -2147483648 ≤ r.p ∧ r.p ≤ 2147483647 := ka 0
  have KA := Lib.hid ka
  have H1 := Lib.hid c1
  have H2 := Lib.hid c2
  have H3 := Lib.hid c3
  have H4 := Lib.hid c4
  have H5 := Lib.hid c5
  have H6 := Lib.hid c6
  have H7 := Lib.hid c7
  have H8 := Lib.hid c8
  have HI := Lib.hid hi
  clear c1 c2 c3 c4 c5 c6 c7 c8 hi hr ka hst hw hq
  obtain ⟨n1, n2⟩ := hn
  unfold Tr.val val32
  go_enter Try.func8, Try.ntmps8
  go_wp2_with (first
    | (go_at_call 11; (with_reducible refine (sane10 _).mono ?_); rintro e w1 ⟨rfl, hb⟩; obtain ⟨hB, hz, p0, p1⟩ := stepP2 hb; clear hb; obtain ⟨q0, q1, q2⟩ := st3 p0; obtain ⟨r0, r1, r2⟩ := st3 p1)
    | (go_at_call 26; rw [HI.out]; (with_reducible refine (refvalid_any _ _).mono ?_); rintro e wq ⟨rfl, rfl⟩)
    | (go_at_call 21; refine (H8.out _).mono ?_; rintro e w3 ⟨rfl, hb⟩; obtain ⟨hB, hzn, hk⟩ := step0 hB hb; replace hz := lt_t hz hzn; replace p0 := hk _ _ _ p0; replace p1 := hk _ _ _ p1; clear hb hk hzn q0 q1 q2 r0 r1 r2; obtain ⟨q0, q1, q2⟩ := st3 p0; obtain ⟨r0, r1, r2⟩ := st3 p1))
  have hT := HST.out w3 p0 p1 hz hB
  have e0 : (toT r 0).cells.toArray = #[.int .i64 0, .int .i64 0, .int .i64 0] := rfl
  rw [e0] at hT
  clear e0 HST p0 p1 hz hB q0 q1 q2 r0 r1 r2
  obtain ⟨m, hm⟩ : ∃ m, w3.heap.size = m := ⟨_, rfl⟩
  obtain ⟨W0, hW0⟩ : ∃ W0 : World, w3.alloc (.cells #[.int .i64 0, .int .i64 0, .int .i64 0] 29) = W0 := ⟨_, rfl⟩
  rw [hW0, hm] at hT
  rw [hW0, hm]
  clear hW0 hm
  go_loopg [56] 3 (fun g i wr => ∃ k : Nat, i = .int .i64 k ∧ k + g = 3 ∧ Hd w m t r k wr)
  case atStart => exact ⟨0, rfl, by omega, hT⟩
  case round =>
    clear hT
    obtain ⟨k, rfl, hk, hT⟩ := hrel
    by_cases hlt : k < 3
    · have ca := Row32 hT.p1 hlt
      have ba := KA.out k
      have s5 : (0 : Int) ≤ k := by omega
      have s6 : (k : Int) < 3 := by omega
      have z0 := toT_set r hlt
      obtain ⟨x, hx⟩ : ∃ x, r.get k = x := ⟨_, rfl⟩
      rw [hx] at ca ba z0
      have u0 : wr.cell? ⟨m, k, none⟩ = some _ := RowT_get hT.d0 hlt
      have f0 := Row.frozen hT.d0 k
      have Z0 := Lib.hid z0
      have HT := Lib.hid hT
      have hm := hT.hm
      clear z0 hT hx
      go_wp2_with fail
      go_roundg (gk - 1)
      case measure => omega
      case rel => exact ⟨k + 1, by go_num, by omega, HT.out.next Z0.out⟩
    · obtain rfl : k = 3 := by omega
      clear KA H8 hk hq' bi
      obtain ⟨p0, _, d0, hm, hB⟩ := hT
      rw [toT_3] at d0
      have hzd0 := Row.lt d0
      have hzp0 : w.heap.size < wr.heap.size := by omega
      unfold Tr.cells at d0 p0
      clear hm
      obtain ⟨p0c0, p0c1, p0c2⟩ := st3 p0
      obtain ⟨d0c0, d0c1, d0c2⟩ := st3 d0
      go_wp2_with (first
        | (go_at_call 16; (with_reducible refine (H1.out _).mono ?_); rintro e w1 ⟨rfl, hb⟩; obtain ⟨hB, hzn, hk⟩ := step0 hB hb; replace p0 := hk _ _ _ p0; replace hzp0 := lt_t hzp0 hzn; replace d0 := hk _ _ _ d0; replace hzd0 := lt_t hzd0 hzn; clear hzn hk hb; clear p0c0 p0c1 p0c2 d0c0 d0c1 d0c2; obtain ⟨p0c0, p0c1, p0c2⟩ := st3 p0; obtain ⟨d0c0, d0c1, d0c2⟩ := st3 d0)
        | (go_at_call 28; (with_reducible refine (H2.out _).mono ?_); rintro e wq ⟨rfl, rfl⟩)
        | (go_at_call 29; (with_reducible refine (H3.out _).mono ?_); rintro e w3 ⟨rfl, hb⟩; obtain ⟨hB, hzn, hk, r3⟩ := step1 hB hb; replace p0 := hk _ _ _ p0; replace hzp0 := lt_t hzp0 (Nat.le_of_lt hzn); replace d0 := hk _ _ _ d0; replace hzd0 := lt_t hzd0 (Nat.le_of_lt hzn); have hzr3 := hzn; clear hzn hk hb; clear p0c0 p0c1 p0c2 d0c0 d0c1 d0c2; obtain ⟨p0c0, p0c1, p0c2⟩ := st3 p0; obtain ⟨d0c0, d0c1, d0c2⟩ := st3 d0; obtain ⟨r3c0, r3c1, r3c2, r3c3, r3c4, r3c5⟩ := st6 r3)
        | (go_at_call 30; (with_reducible refine (H4.out _).mono ?_); rintro e wq ⟨rfl, rfl⟩)
        | (go_at_call 31; (with_reducible refine (H5.out _).mono ?_); rintro e wq ⟨rfl, rfl⟩)
        | (go_at_call 29; (with_reducible refine (H6.out _).mono ?_); rintro e w6 ⟨rfl, hb⟩; obtain ⟨hB, hzn, hk⟩ := step0 hB hb; replace p0 := hk _ _ _ p0; replace hzp0 := lt_t hzp0 hzn; replace d0 := hk _ _ _ d0; replace hzd0 := lt_t hzd0 hzn; replace r3 := hk _ _ _ r3; replace hzr3 := lt_t hzr3 hzn; clear hzn hk hb; clear p0c0 p0c1 p0c2 d0c0 d0c1 d0c2 r3c0 r3c1 r3c2 r3c3 r3c4 r3c5; obtain ⟨p0c0, p0c1, p0c2⟩ := st3 p0; obtain ⟨d0c0, d0c1, d0c2⟩ := st3 d0; obtain ⟨r3c0, r3c1, r3c2, r3c3, r3c4, r3c5⟩ := st6 r3)
        | (go_at_call 16; (with_reducible refine (H7.out _).mono ?_); rintro e w7 ⟨rfl, hb⟩; obtain ⟨hB, hzn, hk, r7⟩ := step1 hB hb; replace r3 := hk _ _ _ r3; replace hzr3 := lt_t hzr3 (Nat.le_of_lt hzn); clear hzn hk hb r7; clear p0c0 p0c1 p0c2 d0c0 d0c1 d0c2 r3c0 r3c1 r3c2 r3c3 r3c4 r3c5; obtain ⟨r3c0, r3c1, r3c2, r3c3, r3c4, r3c5⟩ := st6 r3))
      go_quiet (fail)
      go_wp2_with fail
      go_ret
      exact ⟨rfl, below_drewN (hB.alloc hB.size _) _⟩
set_option maxRecDepth 100000 in
set_option maxHeartbeats 4000000 in
theorem hides_main1 (key o n : Int) (t r : Tr) (hr : wf32 r) (hn : 0 ≤ n ∧ n ≤ 255) (hi : n % 3 = 1) (hv : vld key = true) (hw : wOK t = true) (o1 : 1 ≤ o) (o2 : o ≤ 1073741789) (hq : r.q.tmod 1073741789 ≠ 0) (w : World) :
    Calls Try.prog 8 #[.int .i64 key, t.val, val32 r, .int .i64 o, .int .u8 n] w fun e w' => e = .returned (.bool true) ∧ Below w.heap.size w w' := by
  obtain ⟨S, T, x, bk, m0, iv, sd, he, c1, c2, c3, c4, c5, c6, c7⟩ := hides_calls hv hw (k := 1) (by omega) o1 o2 (emod_ne hq)
  obtain ⟨⟨a0, b0⟩, ⟨a1, b1⟩, ⟨a2, b2⟩⟩ := S
  obtain ⟨⟨a3, b3⟩, ⟨a4, b4⟩, ⟨a5, b5⟩⟩ := T
  have he' : (⟨a4, b4⟩ : Ci) = ⟨a1, b1⟩ := he
  injection he' with ea eb
  subst ea eb
  clear he
  replace c4 : ∀ w : World, Calls Try.prog 30 #[.int .i64 b4, .int .i64 bk] w fun e w' => e = .returned (.tuple #[.int .i64 m0, .int .i64 0]) ∧ w = w' := c4
  replace c5 : ∀ w : World, Calls Try.prog 31 #[.int .i64 r.q] w fun e w' => e = .returned (.int .i64 iv) ∧ w = w' := c5
  replace c7 : ∀ w : World, Calls Try.prog 16 #[.int .i64 sd, .agg #[.int .i64 t.p, .int .i64 o, .int .i64 t.r], r.val] w fun e w' => e = .returned (.tuple #[(⟨⟨a3, b3⟩, ⟨a4, b4⟩, ⟨a5, b5⟩⟩ : Se).val, .int .i64 0]) ∧ Below w.heap.size w w' := c7
  unfold Se.val Tr.val at c1 c7
  simp only at c1 c7
  have b1' := fun w => runC 9998 ⟨a4, b4⟩ ⟨a4, b4⟩ w
  rw [eqCi_self] at b1'
  replace b1' : ∀ w : World, (Op.equalIn 10000 32 (.agg #[.int .i64 a4, .int .i64 b4]) (.agg #[.int .i64 a4, .int .i64 b4])).run Try.prog w = .ok true w := b1'
  have c8 := fun w => words_any t w
  rw [hw] at c8
  have hq' : (r.q.tmod 1073741789 == 0) = false := by simpa using hq
  have hst := fun W => @Hd.start w W t r
  have HST := Lib.hid hst
  have ka := fun k => wf32_bd hr k
  have bi : -2147483648 ≤ r.q ∧ r.q ≤ 2147483647 := ka 1
  have KA := Lib.hid ka
  have H1 := Lib.hid c1
  have H2 := Lib.hid c2
  have H3 := Lib.hid c3
  have H4 := Lib.hid c4
  have H5 := Lib.hid c5
  have H6 := Lib.hid c6
  have H7 := Lib.hid c7
  have H8 := Lib.hid c8
  have HI := Lib.hid hi
  clear c1 c2 c3 c4 c5 c6 c7 c8 hi hr ka hst hw hq
  obtain ⟨n1, n2⟩ := hn
  unfold Tr.val val32
  go_enter Try.func8, Try.ntmps8
  go_wp2_with (first
    | (go_at_call 11; (with_reducible refine (sane10 _).mono ?_); rintro e w1 ⟨rfl, hb⟩; obtain ⟨hB, hz, p0, p1⟩ := stepP2 hb; clear hb; obtain ⟨q0, q1, q2⟩ := st3 p0; obtain ⟨r0, r1, r2⟩ := st3 p1)
    | (go_at_call 26; rw [HI.out]; (with_reducible refine (refvalid_any _ _).mono ?_); rintro e wq ⟨rfl, rfl⟩)
    | (go_at_call 21; refine (H8.out _).mono ?_; rintro e w3 ⟨rfl, hb⟩; obtain ⟨hB, hzn, hk⟩ := step0 hB hb; replace hz := lt_t hz hzn; replace p0 := hk _ _ _ p0; replace p1 := hk _ _ _ p1; clear hb hk hzn q0 q1 q2 r0 r1 r2; obtain ⟨q0, q1, q2⟩ := st3 p0; obtain ⟨r0, r1, r2⟩ := st3 p1))
  have hT := HST.out w3 p0 p1 hz hB
  have e0 : (toT r 0).cells.toArray = #[.int .i64 0, .int .i64 0, .int .i64 0] := rfl
  rw [e0] at hT
  clear e0 HST p0 p1 hz hB q0 q1 q2 r0 r1 r2
  obtain ⟨m, hm⟩ : ∃ m, w3.heap.size = m := ⟨_, rfl⟩
  obtain ⟨W0, hW0⟩ : ∃ W0 : World, w3.alloc (.cells #[.int .i64 0, .int .i64 0, .int .i64 0] 29) = W0 := ⟨_, rfl⟩
  rw [hW0, hm] at hT
  rw [hW0, hm]
  clear hW0 hm
  go_loopg [56] 3 (fun g i wr => ∃ k : Nat, i = .int .i64 k ∧ k + g = 3 ∧ Hd w m t r k wr)
  case atStart => exact ⟨0, rfl, by omega, hT⟩
  case round =>
    clear hT
    obtain ⟨k, rfl, hk, hT⟩ := hrel
    by_cases hlt : k < 3
    · have ca := Row32 hT.p1 hlt
      have ba := KA.out k
      have s5 : (0 : Int) ≤ k := by omega
      have s6 : (k : Int) < 3 := by omega
      have z0 := toT_set r hlt
      obtain ⟨x, hx⟩ : ∃ x, r.get k = x := ⟨_, rfl⟩
      rw [hx] at ca ba z0
      have u0 : wr.cell? ⟨m, k, none⟩ = some _ := RowT_get hT.d0 hlt
      have f0 := Row.frozen hT.d0 k
      have Z0 := Lib.hid z0
      have HT := Lib.hid hT
      have hm := hT.hm
      clear z0 hT hx
      go_wp2_with fail
      go_roundg (gk - 1)
      case measure => omega
      case rel => exact ⟨k + 1, by go_num, by omega, HT.out.next Z0.out⟩
    · obtain rfl : k = 3 := by omega
      clear KA H8 hk hq' bi
      obtain ⟨p0, _, d0, hm, hB⟩ := hT
      rw [toT_3] at d0
      have hzd0 := Row.lt d0
      have hzp0 : w.heap.size < wr.heap.size := by omega
      unfold Tr.cells at d0 p0
      clear hm
      obtain ⟨p0c0, p0c1, p0c2⟩ := st3 p0
      obtain ⟨d0c0, d0c1, d0c2⟩ := st3 d0
      go_wp2_with (first
        | (go_at_call 16; (with_reducible refine (H1.out _).mono ?_); rintro e w1 ⟨rfl, hb⟩; obtain ⟨hB, hzn, hk⟩ := step0 hB hb; replace p0 := hk _ _ _ p0; replace hzp0 := lt_t hzp0 hzn; replace d0 := hk _ _ _ d0; replace hzd0 := lt_t hzd0 hzn; clear hzn hk hb; clear p0c0 p0c1 p0c2 d0c0 d0c1 d0c2; obtain ⟨p0c0, p0c1, p0c2⟩ := st3 p0; obtain ⟨d0c0, d0c1, d0c2⟩ := st3 d0)
        | (go_at_call 28; (with_reducible refine (H2.out _).mono ?_); rintro e wq ⟨rfl, rfl⟩)
        | (go_at_call 29; (with_reducible refine (H3.out _).mono ?_); rintro e w3 ⟨rfl, hb⟩; obtain ⟨hB, hzn, hk, r3⟩ := step1 hB hb; replace p0 := hk _ _ _ p0; replace hzp0 := lt_t hzp0 (Nat.le_of_lt hzn); replace d0 := hk _ _ _ d0; replace hzd0 := lt_t hzd0 (Nat.le_of_lt hzn); have hzr3 := hzn; clear hzn hk hb; clear p0c0 p0c1 p0c2 d0c0 d0c1 d0c2; obtain ⟨p0c0, p0c1, p0c2⟩ := st3 p0; obtain ⟨d0c0, d0c1, d0c2⟩ := st3 d0; obtain ⟨r3c0, r3c1, r3c2, r3c3, r3c4, r3c5⟩ := st6 r3)
        | (go_at_call 30; (with_reducible refine (H4.out _).mono ?_); rintro e wq ⟨rfl, rfl⟩)
        | (go_at_call 31; (with_reducible refine (H5.out _).mono ?_); rintro e wq ⟨rfl, rfl⟩)
        | (go_at_call 29; (with_reducible refine (H6.out _).mono ?_); rintro e w6 ⟨rfl, hb⟩; obtain ⟨hB, hzn, hk⟩ := step0 hB hb; replace p0 := hk _ _ _ p0; replace hzp0 := lt_t hzp0 hzn; replace d0 := hk _ _ _ d0; replace hzd0 := lt_t hzd0 hzn; replace r3 := hk _ _ _ r3; replace hzr3 := lt_t hzr3 hzn; clear hzn hk hb; clear p0c0 p0c1 p0c2 d0c0 d0c1 d0c2 r3c0 r3c1 r3c2 r3c3 r3c4 r3c5; obtain ⟨p0c0, p0c1, p0c2⟩ := st3 p0; obtain ⟨d0c0, d0c1, d0c2⟩ := st3 d0; obtain ⟨r3c0, r3c1, r3c2, r3c3, r3c4, r3c5⟩ := st6 r3)
        | (go_at_call 16; (with_reducible refine (H7.out _).mono ?_); rintro e w7 ⟨rfl, hb⟩; obtain ⟨hB, hzn, hk, r7⟩ := step1 hB hb; replace r3 := hk _ _ _ r3; replace hzr3 := lt_t hzr3 (Nat.le_of_lt hzn); clear hzn hk hb r7; clear p0c0 p0c1 p0c2 d0c0 d0c1 d0c2 r3c0 r3c1 r3c2 r3c3 r3c4 r3c5; obtain ⟨r3c0, r3c1, r3c2, r3c3, r3c4, r3c5⟩ := st6 r3))
      go_quiet (fail)
      go_wp2_with fail
      go_ret
      exact ⟨rfl, below_drewN (hB.alloc hB.size _) _⟩
set_option maxRecDepth 100000 in
set_option maxHeartbeats 4000000 in
theorem hides_main2 (key o n : Int) (t r : Tr) (hr : wf32 r) (hn : 0 ≤ n ∧ n ≤ 255) (hi : n % 3 = 2) (hv : vld key = true) (hw : wOK t = true) (o1 : 1 ≤ o) (o2 : o ≤ 1073741789) (hq : r.r.tmod 1073741789 ≠ 0) (w : World) :
    Calls Try.prog 8 #[.int .i64 key, t.val, val32 r, .int .i64 o, .int .u8 n] w fun e w' => e = .returned (.bool true) ∧ Below w.heap.size w w' := by
  obtain ⟨S, T, x, bk, m0, iv, sd, he, c1, c2, c3, c4, c5, c6, c7⟩ := hides_calls hv hw (k := 2) (by omega) o1 o2 (emod_ne hq)
  obtain ⟨⟨a0, b0⟩, ⟨a1, b1⟩, ⟨a2, b2⟩⟩ := S
  obtain ⟨⟨a3, b3⟩, ⟨a4, b4⟩, ⟨a5, b5⟩⟩ := T
  have he' : (⟨a5, b5⟩ : Ci) = ⟨a2, b2⟩ := he
  injection he' with ea eb
  subst ea eb
  clear he
  replace c4 : ∀ w : World, Calls Try.prog 30 #[.int .i64 b5, .int .i64 bk] w fun e w' => e = .returned (.tuple #[.int .i64 m0, .int .i64 0]) ∧ w = w' := c4
  replace c5 : ∀ w : World, Calls Try.prog 31 #[.int .i64 r.r] w fun e w' => e = .returned (.int .i64 iv) ∧ w = w' := c5
  replace c7 : ∀ w : World, Calls Try.prog 16 #[.int .i64 sd, .agg #[.int .i64 t.p, .int .i64 t.q, .int .i64 o], r.val] w fun e w' => e = .returned (.tuple #[(⟨⟨a3, b3⟩, ⟨a4, b4⟩, ⟨a5, b5⟩⟩ : Se).val, .int .i64 0]) ∧ Below w.heap.size w w' := c7
  unfold Se.val Tr.val at c1 c7
  simp only at c1 c7
  have b1' := fun w => runC 9998 ⟨a5, b5⟩ ⟨a5, b5⟩ w
  rw [eqCi_self] at b1'
  replace b1' : ∀ w : World, (Op.equalIn 10000 32 (.agg #[.int .i64 a5, .int .i64 b5]) (.agg #[.int .i64 a5, .int .i64 b5])).run Try.prog w = .ok true w := b1'
  have c8 := fun w => words_any t w
  rw [hw] at c8
  have hq' : (r.r.tmod 1073741789 == 0) = false := by simpa using hq
  have hst := fun W => @Hd.start w W t r
  have HST := Lib.hid hst
  have ka := fun k => wf32_bd hr k
  have bi : -2147483648 ≤ r.r ∧ r.r ≤ 2147483647 := ka 2
  have KA := Lib.hid ka
  have H1 := Lib.hid c1
  have H2 := Lib.hid c2
  have H3 := Lib.hid c3
  have H4 := Lib.hid c4
  have H5 := Lib.hid c5
  have H6 := Lib.hid c6
  have H7 := Lib.hid c7
  have H8 := Lib.hid c8
  have HI := Lib.hid hi
  clear c1 c2 c3 c4 c5 c6 c7 c8 hi hr ka hst hw hq
  obtain ⟨n1, n2⟩ := hn
  unfold Tr.val val32
  go_enter Try.func8, Try.ntmps8
  go_wp2_with (first
    | (go_at_call 11; (with_reducible refine (sane10 _).mono ?_); rintro e w1 ⟨rfl, hb⟩; obtain ⟨hB, hz, p0, p1⟩ := stepP2 hb; clear hb; obtain ⟨q0, q1, q2⟩ := st3 p0; obtain ⟨r0, r1, r2⟩ := st3 p1)
    | (go_at_call 26; rw [HI.out]; (with_reducible refine (refvalid_any _ _).mono ?_); rintro e wq ⟨rfl, rfl⟩)
    | (go_at_call 21; refine (H8.out _).mono ?_; rintro e w3 ⟨rfl, hb⟩; obtain ⟨hB, hzn, hk⟩ := step0 hB hb; replace hz := lt_t hz hzn; replace p0 := hk _ _ _ p0; replace p1 := hk _ _ _ p1; clear hb hk hzn q0 q1 q2 r0 r1 r2; obtain ⟨q0, q1, q2⟩ := st3 p0; obtain ⟨r0, r1, r2⟩ := st3 p1))
  have hT := HST.out w3 p0 p1 hz hB
  have e0 : (toT r 0).cells.toArray = #[.int .i64 0, .int .i64 0, .int .i64 0] := rfl
  rw [e0] at hT
  clear e0 HST p0 p1 hz hB q0 q1 q2 r0 r1 r2
  obtain ⟨m, hm⟩ : ∃ m, w3.heap.size = m := ⟨_, rfl⟩
  obtain ⟨W0, hW0⟩ : ∃ W0 : World, w3.alloc (.cells #[.int .i64 0, .int .i64 0, .int .i64 0] 29) = W0 := ⟨_, rfl⟩
  rw [hW0, hm] at hT
  rw [hW0, hm]
  clear hW0 hm
  go_loopg [56] 3 (fun g i wr => ∃ k : Nat, i = .int .i64 k ∧ k + g = 3 ∧ Hd w m t r k wr)
  case atStart => exact ⟨0, rfl, by omega, hT⟩
  case round =>
    clear hT
    obtain ⟨k, rfl, hk, hT⟩ := hrel
    by_cases hlt : k < 3
    · have ca := Row32 hT.p1 hlt
      have ba := KA.out k
      have s5 : (0 : Int) ≤ k := by omega
      have s6 : (k : Int) < 3 := by omega
      have z0 := toT_set r hlt
      obtain ⟨x, hx⟩ : ∃ x, r.get k = x := ⟨_, rfl⟩
      rw [hx] at ca ba z0
      have u0 : wr.cell? ⟨m, k, none⟩ = some _ := RowT_get hT.d0 hlt
      have f0 := Row.frozen hT.d0 k
      have Z0 := Lib.hid z0
      have HT := Lib.hid hT
      have hm := hT.hm
      clear z0 hT hx
      go_wp2_with fail
      go_roundg (gk - 1)
      case measure => omega
      case rel => exact ⟨k + 1, by go_num, by omega, HT.out.next Z0.out⟩
    · obtain rfl : k = 3 := by omega
      clear KA H8 hk hq' bi
      obtain ⟨p0, _, d0, hm, hB⟩ := hT
      rw [toT_3] at d0
      have hzd0 := Row.lt d0
      have hzp0 : w.heap.size < wr.heap.size := by omega
      unfold Tr.cells at d0 p0
      clear hm
      obtain ⟨p0c0, p0c1, p0c2⟩ := st3 p0
      obtain ⟨d0c0, d0c1, d0c2⟩ := st3 d0
      go_wp2_with (first
        | (go_at_call 16; (with_reducible refine (H1.out _).mono ?_); rintro e w1 ⟨rfl, hb⟩; obtain ⟨hB, hzn, hk⟩ := step0 hB hb; replace p0 := hk _ _ _ p0; replace hzp0 := lt_t hzp0 hzn; replace d0 := hk _ _ _ d0; replace hzd0 := lt_t hzd0 hzn; clear hzn hk hb; clear p0c0 p0c1 p0c2 d0c0 d0c1 d0c2; obtain ⟨p0c0, p0c1, p0c2⟩ := st3 p0; obtain ⟨d0c0, d0c1, d0c2⟩ := st3 d0)
        | (go_at_call 28; (with_reducible refine (H2.out _).mono ?_); rintro e wq ⟨rfl, rfl⟩)
        | (go_at_call 29; (with_reducible refine (H3.out _).mono ?_); rintro e w3 ⟨rfl, hb⟩; obtain ⟨hB, hzn, hk, r3⟩ := step1 hB hb; replace p0 := hk _ _ _ p0; replace hzp0 := lt_t hzp0 (Nat.le_of_lt hzn); replace d0 := hk _ _ _ d0; replace hzd0 := lt_t hzd0 (Nat.le_of_lt hzn); have hzr3 := hzn; clear hzn hk hb; clear p0c0 p0c1 p0c2 d0c0 d0c1 d0c2; obtain ⟨p0c0, p0c1, p0c2⟩ := st3 p0; obtain ⟨d0c0, d0c1, d0c2⟩ := st3 d0; obtain ⟨r3c0, r3c1, r3c2, r3c3, r3c4, r3c5⟩ := st6 r3)
        | (go_at_call 30; (with_reducible refine (H4.out _).mono ?_); rintro e wq ⟨rfl, rfl⟩)
        | (go_at_call 31; (with_reducible refine (H5.out _).mono ?_); rintro e wq ⟨rfl, rfl⟩)
        | (go_at_call 29; (with_reducible refine (H6.out _).mono ?_); rintro e w6 ⟨rfl, hb⟩; obtain ⟨hB, hzn, hk⟩ := step0 hB hb; replace p0 := hk _ _ _ p0; replace hzp0 := lt_t hzp0 hzn; replace d0 := hk _ _ _ d0; replace hzd0 := lt_t hzd0 hzn; replace r3 := hk _ _ _ r3; replace hzr3 := lt_t hzr3 hzn; clear hzn hk hb; clear p0c0 p0c1 p0c2 d0c0 d0c1 d0c2 r3c0 r3c1 r3c2 r3c3 r3c4 r3c5; obtain ⟨p0c0, p0c1, p0c2⟩ := st3 p0; obtain ⟨d0c0, d0c1, d0c2⟩ := st3 d0; obtain ⟨r3c0, r3c1, r3c2, r3c3, r3c4, r3c5⟩ := st6 r3)
        | (go_at_call 16; (with_reducible refine (H7.out _).mono ?_); rintro e w7 ⟨rfl, hb⟩; obtain ⟨hB, hzn, hk, r7⟩ := step1 hB hb; replace r3 := hk _ _ _ r3; replace hzr3 := lt_t hzr3 (Nat.le_of_lt hzn); clear hzn hk hb r7; clear p0c0 p0c1 p0c2 d0c0 d0c1 d0c2 r3c0 r3c1 r3c2 r3c3 r3c4 r3c5; obtain ⟨r3c0, r3c1, r3c2, r3c3, r3c4, r3c5⟩ := st6 r3))
      go_quiet (fail)
      go_wp2_with fail
      go_ret
      exact ⟨rfl, below_drewN (hB.alloc hB.size _) _⟩
set_option maxRecDepth 100000 in
set_option maxHeartbeats 4000000 in
theorem hides_no (key o n : Int) (t r : Tr) (hn : 0 ≤ n ∧ n ≤ 255) (hv : vld key = false) (w : World) :
    Calls Try.prog 8 #[.int .i64 key, t.val, val32 r, .int .i64 o, .int .u8 n] w fun e w' => e = .returned (.bool true) ∧ Below w.heap.size w w' := by
  obtain ⟨n1, n2⟩ := hn
  unfold Tr.val val32
  go_enter Try.func8, Try.ntmps8
  go_wp2_with (first
    | (go_at_call 11; (with_reducible refine (sane10 _).mono ?_); rintro e w1 ⟨rfl, hb⟩; obtain ⟨hB, hz, p0, p1⟩ := stepP2 hb; clear hb; obtain ⟨q0, q1, q2⟩ := st3 p0; obtain ⟨r0, r1, r2⟩ := st3 p1)
    | (go_at_call 26; (with_reducible refine (refvalid_any _ _).mono ?_); rintro e wq ⟨rfl, rfl⟩))
  go_ret
  exact ⟨rfl, hB⟩
set_option maxRecDepth 100000 in
set_option maxHeartbeats 4000000 in
theorem hides_words (key o n : Int) (t r : Tr) (hn : 0 ≤ n ∧ n ≤ 255) (hv : vld key = true) (hw : wOK t = false) (w : World) :
    Calls Try.prog 8 #[.int .i64 key, t.val, val32 r, .int .i64 o, .int .u8 n] w fun e w' => e = .returned (.bool true) ∧ Below w.heap.size w w' := by
  obtain ⟨n1, n2⟩ := hn
  have c8 := fun w => words_any t w
  rw [hw] at c8
  have H8 := Lib.hid c8
  clear c8 hw
  unfold Tr.val val32
  go_enter Try.func8, Try.ntmps8
  go_wp2_with (first
    | (go_at_call 11; (with_reducible refine (sane10 _).mono ?_); rintro e w1 ⟨rfl, hb⟩; obtain ⟨hB, hz, p0, p1⟩ := stepP2 hb; clear hb; obtain ⟨q0, q1, q2⟩ := st3 p0; obtain ⟨r0, r1, r2⟩ := st3 p1)
    | (go_at_call 26; (with_reducible refine (refvalid_any _ _).mono ?_); rintro e wq ⟨rfl, rfl⟩)
    | (go_at_call 21; refine (H8.out _).mono ?_; rintro e w3 ⟨rfl, hb⟩; obtain ⟨hB, hzn, hk⟩ := step0 hB hb; replace hz := lt_t hz hzn; replace p0 := hk _ _ _ p0; replace p1 := hk _ _ _ p1; clear hb hk hzn q0 q1 q2 r0 r1 r2; obtain ⟨q0, q1, q2⟩ := st3 p0; obtain ⟨r0, r1, r2⟩ := st3 p1))
  go_ret
  exact ⟨rfl, hB⟩
set_option maxRecDepth 100000 in
set_option maxHeartbeats 4000000 in
theorem hides_low (key o n : Int) (t r : Tr) (hn : 0 ≤ n ∧ n ≤ 255) (hv : vld key = true) (hw : wOK t = true) (o1 : o < 1) (w : World) :
    Calls Try.prog 8 #[.int .i64 key, t.val, val32 r, .int .i64 o, .int .u8 n] w fun e w' => e = .returned (.bool true) ∧ Below w.heap.size w w' := by
  obtain ⟨n1, n2⟩ := hn
  have c8 := fun w => words_any t w
  rw [hw] at c8
  have H8 := Lib.hid c8
  clear c8 hw
  unfold Tr.val val32
  go_enter Try.func8, Try.ntmps8
  go_wp2_with (first
    | (go_at_call 11; (with_reducible refine (sane10 _).mono ?_); rintro e w1 ⟨rfl, hb⟩; obtain ⟨hB, hz, p0, p1⟩ := stepP2 hb; clear hb; obtain ⟨q0, q1, q2⟩ := st3 p0; obtain ⟨r0, r1, r2⟩ := st3 p1)
    | (go_at_call 26; (with_reducible refine (refvalid_any _ _).mono ?_); rintro e wq ⟨rfl, rfl⟩)
    | (go_at_call 21; refine (H8.out _).mono ?_; rintro e w3 ⟨rfl, hb⟩; obtain ⟨hB, hzn, hk⟩ := step0 hB hb; replace hz := lt_t hz hzn; replace p0 := hk _ _ _ p0; replace p1 := hk _ _ _ p1; clear hb hk hzn q0 q1 q2 r0 r1 r2; obtain ⟨q0, q1, q2⟩ := st3 p0; obtain ⟨r0, r1, r2⟩ := st3 p1))
  go_ret
  exact ⟨rfl, hB⟩
set_option maxRecDepth 100000 in
set_option maxHeartbeats 4000000 in
theorem hides_high (key o n : Int) (t r : Tr) (hn : 0 ≤ n ∧ n ≤ 255) (hv : vld key = true) (hw : wOK t = true) (o1 : 1 ≤ o) (o2 : 1073741789 < o) (w : World) :
    Calls Try.prog 8 #[.int .i64 key, t.val, val32 r, .int .i64 o, .int .u8 n] w fun e w' => e = .returned (.bool true) ∧ Below w.heap.size w w' := by
  obtain ⟨n1, n2⟩ := hn
  have c8 := fun w => words_any t w
  rw [hw] at c8
  have H8 := Lib.hid c8
  clear c8 hw
  unfold Tr.val val32
  go_enter Try.func8, Try.ntmps8
  go_wp2_with (first
    | (go_at_call 11; (with_reducible refine (sane10 _).mono ?_); rintro e w1 ⟨rfl, hb⟩; obtain ⟨hB, hz, p0, p1⟩ := stepP2 hb; clear hb; obtain ⟨q0, q1, q2⟩ := st3 p0; obtain ⟨r0, r1, r2⟩ := st3 p1)
    | (go_at_call 26; (with_reducible refine (refvalid_any _ _).mono ?_); rintro e wq ⟨rfl, rfl⟩)
    | (go_at_call 21; refine (H8.out _).mono ?_; rintro e w3 ⟨rfl, hb⟩; obtain ⟨hB, hzn, hk⟩ := step0 hB hb; replace hz := lt_t hz hzn; replace p0 := hk _ _ _ p0; replace p1 := hk _ _ _ p1; clear hb hk hzn q0 q1 q2 r0 r1 r2; obtain ⟨q0, q1, q2⟩ := st3 p0; obtain ⟨r0, r1, r2⟩ := st3 p1))
  go_ret
  exact ⟨rfl, hB⟩
set_option maxRecDepth 100000 in
set_option maxHeartbeats 4000000 in
theorem hides_zero0 (key o n : Int) (t r : Tr) (hn : 0 ≤ n ∧ n ≤ 255) (hr : wf32 r) (hi : n % 3 = 0) (hv : vld key = true) (hw : wOK t = true) (o1 : 1 ≤ o) (o2 : o ≤ 1073741789) (hq : r.p.tmod 1073741789 = 0) (w : World) :
    Calls Try.prog 8 #[.int .i64 key, t.val, val32 r, .int .i64 o, .int .u8 n] w fun e w' => e = .returned (.bool true) ∧ Below w.heap.size w w' := by
  obtain ⟨n1, n2⟩ := hn
  have hq' : (r.p.tmod 1073741789 == 0) = true := by simpa using hq
  have bi : -2147483648 ≤ r.p ∧ r.p ≤ 2147483647 := wf32_bd hr 0
  have HI := Lib.hid hi
  clear hi hq hr
  have c8 := fun w => words_any t w
  rw [hw] at c8
  have H8 := Lib.hid c8
  clear c8 hw
  unfold Tr.val val32
  go_enter Try.func8, Try.ntmps8
  go_wp2_with (first
    | (go_at_call 11; (with_reducible refine (sane10 _).mono ?_); rintro e w1 ⟨rfl, hb⟩; obtain ⟨hB, hz, p0, p1⟩ := stepP2 hb; clear hb; obtain ⟨q0, q1, q2⟩ := st3 p0; obtain ⟨r0, r1, r2⟩ := st3 p1)
    | (go_at_call 26; rw [HI.out]; (with_reducible refine (refvalid_any _ _).mono ?_); rintro e wq ⟨rfl, rfl⟩)
    | (go_at_call 21; refine (H8.out _).mono ?_; rintro e w3 ⟨rfl, hb⟩; obtain ⟨hB, hzn, hk⟩ := step0 hB hb; replace hz := lt_t hz hzn; replace p0 := hk _ _ _ p0; replace p1 := hk _ _ _ p1; clear hb hk hzn q0 q1 q2 r0 r1 r2; obtain ⟨q0, q1, q2⟩ := st3 p0; obtain ⟨r0, r1, r2⟩ := st3 p1))
  go_ret
  exact ⟨rfl, hB⟩
set_option maxRecDepth 100000 in
set_option maxHeartbeats 4000000 in
theorem hides_zero1 (key o n : Int) (t r : Tr) (hn : 0 ≤ n ∧ n ≤ 255) (hr : wf32 r) (hi : n % 3 = 1) (hv : vld key = true) (hw : wOK t = true) (o1 : 1 ≤ o) (o2 : o ≤ 1073741789) (hq : r.q.tmod 1073741789 = 0) (w : World) :
    Calls Try.prog 8 #[.int .i64 key, t.val, val32 r, .int .i64 o, .int .u8 n] w fun e w' => e = .returned (.bool true) ∧ Below w.heap.size w w' := by
  obtain ⟨n1, n2⟩ := hn
  have hq' : (r.q.tmod 1073741789 == 0) = true := by simpa using hq
  have bi : -2147483648 ≤ r.q ∧ r.q ≤ 2147483647 := wf32_bd hr 1
  have HI := Lib.hid hi
  clear hi hq hr
  have c8 := fun w => words_any t w
  rw [hw] at c8
  have H8 := Lib.hid c8
  clear c8 hw
  unfold Tr.val val32
  go_enter Try.func8, Try.ntmps8
  go_wp2_with (first
    | (go_at_call 11; (with_reducible refine (sane10 _).mono ?_); rintro e w1 ⟨rfl, hb⟩; obtain ⟨hB, hz, p0, p1⟩ := stepP2 hb; clear hb; obtain ⟨q0, q1, q2⟩ := st3 p0; obtain ⟨r0, r1, r2⟩ := st3 p1)
    | (go_at_call 26; rw [HI.out]; (with_reducible refine (refvalid_any _ _).mono ?_); rintro e wq ⟨rfl, rfl⟩)
    | (go_at_call 21; refine (H8.out _).mono ?_; rintro e w3 ⟨rfl, hb⟩; obtain ⟨hB, hzn, hk⟩ := step0 hB hb; replace hz := lt_t hz hzn; replace p0 := hk _ _ _ p0; replace p1 := hk _ _ _ p1; clear hb hk hzn q0 q1 q2 r0 r1 r2; obtain ⟨q0, q1, q2⟩ := st3 p0; obtain ⟨r0, r1, r2⟩ := st3 p1))
  go_ret
  exact ⟨rfl, hB⟩
set_option maxRecDepth 100000 in
set_option maxHeartbeats 4000000 in
theorem hides_zero2 (key o n : Int) (t r : Tr) (hn : 0 ≤ n ∧ n ≤ 255) (hr : wf32 r) (hi : n % 3 = 2) (hv : vld key = true) (hw : wOK t = true) (o1 : 1 ≤ o) (o2 : o ≤ 1073741789) (hq : r.r.tmod 1073741789 = 0) (w : World) :
    Calls Try.prog 8 #[.int .i64 key, t.val, val32 r, .int .i64 o, .int .u8 n] w fun e w' => e = .returned (.bool true) ∧ Below w.heap.size w w' := by
  obtain ⟨n1, n2⟩ := hn
  have hq' : (r.r.tmod 1073741789 == 0) = true := by simpa using hq
  have bi : -2147483648 ≤ r.r ∧ r.r ≤ 2147483647 := wf32_bd hr 2
  have HI := Lib.hid hi
  clear hi hq hr
  have c8 := fun w => words_any t w
  rw [hw] at c8
  have H8 := Lib.hid c8
  clear c8 hw
  unfold Tr.val val32
  go_enter Try.func8, Try.ntmps8
  go_wp2_with (first
    | (go_at_call 11; (with_reducible refine (sane10 _).mono ?_); rintro e w1 ⟨rfl, hb⟩; obtain ⟨hB, hz, p0, p1⟩ := stepP2 hb; clear hb; obtain ⟨q0, q1, q2⟩ := st3 p0; obtain ⟨r0, r1, r2⟩ := st3 p1)
    | (go_at_call 26; rw [HI.out]; (with_reducible refine (refvalid_any _ _).mono ?_); rintro e wq ⟨rfl, rfl⟩)
    | (go_at_call 21; refine (H8.out _).mono ?_; rintro e w3 ⟨rfl, hb⟩; obtain ⟨hB, hzn, hk⟩ := step0 hB hb; replace hz := lt_t hz hzn; replace p0 := hk _ _ _ p0; replace p1 := hk _ _ _ p1; clear hb hk hzn q0 q1 q2 r0 r1 r2; obtain ⟨q0, q1, q2⟩ := st3 p0; obtain ⟨r0, r1, r2⟩ := st3 p1))
  go_ret
  exact ⟨rfl, hB⟩
theorem hides_at (key o n : Int) (t r : Tr) (hr : wf32 r) (hn : 0 ≤ n ∧ n ≤ 255) (hv : vld key = true) (hw : wOK t = true) (o1 : 1 ≤ o) (o2 : o ≤ 1073741789) (w : World) :
    Calls Try.prog 8 #[.int .i64 key, t.val, val32 r, .int .i64 o, .int .u8 n] w fun e w' => e = .returned (.bool true) ∧ Below w.heap.size w w' := by
  rcases (show n % 3 = 0 ∨ n % 3 = 1 ∨ n % 3 = 2 by omega) with hi | hi | hi
  · by_cases hq : r.p.tmod 1073741789 = 0
    · exact hides_zero0 key o n t r hn hr hi hv hw o1 o2 hq w
    · exact hides_main0 key o n t r hr hn hi hv hw o1 o2 hq w
  · by_cases hq : r.q.tmod 1073741789 = 0
    · exact hides_zero1 key o n t r hn hr hi hv hw o1 o2 hq w
    · exact hides_main1 key o n t r hr hn hi hv hw o1 o2 hq w
  · by_cases hq : r.r.tmod 1073741789 = 0
    · exact hides_zero2 key o n t r hn hr hi hv hw o1 o2 hq w
    · exact hides_main2 key o n t r hr hn hi hv hw o1 o2 hq w
theorem elgamalHides_walk (key : Int) (t r : Tr) (o n : Int) (w : World) (_ : (Lit.int .i64 key).wf = true) (_ : wfT t) (hr : wf32 r) (_ : (Lit.int .i64 o).wf = true) (hn : (Lit.int .u8 n).wf = true) :
    Calls Try.prog 8 #[.int .i64 key, t.val, val32 r, .int .i64 o, .int .u8 n] w fun e w' => e = .returned (.bool true) ∧ Below w.heap.size w w' := by
  have hn' : 0 ≤ n ∧ n ≤ 255 := bounds_u8 hn
  cases hv : vld key with
  | false => exact hides_no key o n t r hn' hv w
  | true =>
    cases hw : wOK t with
    | false => exact hides_words key o n t r hn' hv hw w
    | true =>
      by_cases o1 : 1 ≤ o
      · by_cases o2 : o ≤ 1073741789
        · exact hides_at key o n t r hr hn' hv hw o1 o2 w
        · exact hides_high key o n t r hn' hv hw o1 (by omega) w
      · exact hides_low key o n t r hn' hv hw (by omega) w
end Go.Proofs.Ytlbnbginippjfaa
