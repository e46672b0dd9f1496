import Derived.Test.YthckledagggoiaaGreatDoorRg5
import Derived.Test.YthckledagggoiaaGreatDoorMb
set_option linter.unusedSimpArgs false
set_option linter.unusedVariables false
namespace Go.Proofs.YthckledagggoiaaGreatDoor
open Go.RowKit Fk
/-! The reference's registry: what is valid, what counts, what replaces. -/
theorem rowAt2 (w : World) (us bs : List Value) (s t : TypeId) : Row ((w.alloc (.cells us.toArray s)).alloc (.cells bs.toArray t)) w.heap.size s us := (Row.new w s us).alloc _
set_option maxHeartbeats 1000000 in
theorem r33id_any (n : Int) (w : World) : Calls Tryz.prog 109 #[.int .i64 n] w fun e w' => e = .returned (.bool (idB n)) ∧ w = w' := by
  unfold idB
  obtain ⟨b1, h1⟩ : ∃ b, decide (0 ≤ n) = b := ⟨_, rfl⟩
  obtain ⟨b2, h2⟩ : ∃ b, decide (n ≤ 1048576) = b := ⟨_, rfl⟩
  rw [h1, h2]
  cases b1 <;> cases b2
  all_goals
    go_enter Tryz.func109, Tryz.ntmps109
    go_wp2
    go_ret
    exact ⟨rfl, rfl⟩
set_option maxHeartbeats 1000000 in
theorem r33span_any (f u : Int) (w : World) : Calls Tryz.prog 110 #[.int .i64 f, .int .i64 u] w fun e w' => e = .returned (.bool (spanB f u)) ∧ w = w' := by
  unfold spanB
  obtain ⟨b1, h1⟩ : ∃ b, decide (0 ≤ f) = b := ⟨_, rfl⟩
  obtain ⟨b2, h2⟩ : ∃ b, decide (f < u) = b := ⟨_, rfl⟩
  obtain ⟨b3, h3⟩ : ∃ b, decide (u ≤ 2097152) = b := ⟨_, rfl⟩
  rw [h1, h2, h3]
  cases b1 <;> cases b2 <;> cases b3
  all_goals
    go_enter Tryz.func110, Tryz.ntmps110
    go_wp2
    go_ret
    exact ⟨rfl, rfl⟩
set_option maxRecDepth 100000 in
set_option maxHeartbeats 4000000 in
theorem r33valid_any (x : En) (w : World) : Calls Tryz.prog 51 #[x.val] w fun e w' => e = .returned (.bool (validB x)) ∧ Below w.heap.size w w' := by
  have hB := (Below.refl w.heap.size w).alloc (Nat.le_refl _) (.cells #[.int .i64 x.no, .int .i64 x.kind, .int .i64 x.a, .int .i64 x.b, .int .i64 x.from_, .int .i64 x.until_, .int .i64 x.known, .int .i64 x.gone] 49)
  have i1 := fun W => r33id_any x.no W
  have i2 := fun W => r33id_any x.a W
  have i3 := fun W => r33span_any x.from_ x.until_ W
  have i4 := fun W => r33span_any x.known x.gone W
  have i5 := fun W => r33id_any x.b W
  have hv : validB x = (kindB x.kind x.a x.b && (idB x.no && (idB x.a && (spanB x.from_ x.until_ && spanB x.known x.gone)))) := rfl
  rw [hv]
  clear hv
  obtain ⟨b1, h1⟩ : ∃ b, idB x.no = b := ⟨_, rfl⟩
  obtain ⟨b2, h2⟩ : ∃ b, idB x.a = b := ⟨_, rfl⟩
  obtain ⟨b3, h3⟩ : ∃ b, spanB x.from_ x.until_ = b := ⟨_, rfl⟩
  obtain ⟨b4, h4⟩ : ∃ b, spanB x.known x.gone = b := ⟨_, rfl⟩
  obtain ⟨b5, h5⟩ : ∃ b, idB x.b = b := ⟨_, rfl⟩
  unfold kindB agentB livesB
  rw [h1] at i1 ⊢
  rw [h2] at i2 ⊢
  rw [h3] at i3 ⊢
  rw [h4] at i4 ⊢
  rw [h5] at i5 ⊢
  unfold En.val
  obtain ⟨x0, x1, x2, x3, x4, x5, x6, x7⟩ := x
  simp only at i1 i2 i3 i4 i5 hB ⊢
  have I1 := Lib.hid i1
  have I2 := Lib.hid i2
  have I3 := Lib.hid i3
  have I4 := Lib.hid i4
  have I5 := Lib.hid i5
  have HB := Lib.hid hB
  clear i1 i2 i3 i4 i5 h1 h2 h3 h4 h5 hB
  cases b1 with
  | false =>
    rw [Bool.false_and, Bool.and_false]
    go_enter Tryz.func51, Tryz.ntmps51
    go_wp2_with (first
      | (go_at_call 109; (first | (with_reducible refine (I1.out _).mono ?_) | (with_reducible refine (I2.out _).mono ?_) | (with_reducible refine (I5.out _).mono ?_)); rintro e Y ⟨rfl, rfl⟩)
      | (go_at_call 110; (first | (with_reducible refine (I3.out _).mono ?_) | (with_reducible refine (I4.out _).mono ?_)); rintro e Y ⟨rfl, rfl⟩))
    go_ret
    exact ⟨rfl, HB.out⟩
  | true =>
    cases b2 with
    | false =>
      rw [Bool.false_and, Bool.and_false, Bool.and_false]
      go_enter Tryz.func51, Tryz.ntmps51
      go_wp2_with (first
        | (go_at_call 109; (first | (with_reducible refine (I1.out _).mono ?_) | (with_reducible refine (I2.out _).mono ?_) | (with_reducible refine (I5.out _).mono ?_)); rintro e Y ⟨rfl, rfl⟩)
        | (go_at_call 110; (first | (with_reducible refine (I3.out _).mono ?_) | (with_reducible refine (I4.out _).mono ?_)); rintro e Y ⟨rfl, rfl⟩))
      go_ret
      exact ⟨rfl, HB.out⟩
    | true =>
      cases b3 with
      | false =>
        rw [Bool.false_and, Bool.and_false, Bool.and_false, Bool.and_false]
        go_enter Tryz.func51, Tryz.ntmps51
        go_wp2_with (first
          | (go_at_call 109; (first | (with_reducible refine (I1.out _).mono ?_) | (with_reducible refine (I2.out _).mono ?_) | (with_reducible refine (I5.out _).mono ?_)); rintro e Y ⟨rfl, rfl⟩)
          | (go_at_call 110; (first | (with_reducible refine (I3.out _).mono ?_) | (with_reducible refine (I4.out _).mono ?_)); rintro e Y ⟨rfl, rfl⟩))
        go_ret
        exact ⟨rfl, HB.out⟩
      | true =>
        cases b4 with
        | false =>
          rw [Bool.and_false, Bool.and_false, Bool.and_false, Bool.and_false]
          go_enter Tryz.func51, Tryz.ntmps51
          go_wp2_with (first
            | (go_at_call 109; (first | (with_reducible refine (I1.out _).mono ?_) | (with_reducible refine (I2.out _).mono ?_) | (with_reducible refine (I5.out _).mono ?_)); rintro e Y ⟨rfl, rfl⟩)
            | (go_at_call 110; (first | (with_reducible refine (I3.out _).mono ?_) | (with_reducible refine (I4.out _).mono ?_)); rintro e Y ⟨rfl, rfl⟩))
          go_ret
          exact ⟨rfl, HB.out⟩
        | true =>
          rw [Bool.and_true, Bool.and_true, Bool.and_true, Bool.and_true]
          by_cases k1 : x1 = 1
          · subst k1
            rw [if_pos rfl]
            obtain ⟨d1, g1⟩ : ∃ b, decide (0 ≤ x3) = b := ⟨_, rfl⟩
            obtain ⟨d2, g2⟩ : ∃ b, decide (x3 < 24) = b := ⟨_, rfl⟩
            rw [g1, g2]
            cases d1 <;> cases d2
            all_goals
              go_enter Tryz.func51, Tryz.ntmps51
              go_wp2_with (first
                | (go_at_call 109; (first | (with_reducible refine (I1.out _).mono ?_) | (with_reducible refine (I2.out _).mono ?_) | (with_reducible refine (I5.out _).mono ?_)); rintro e Y ⟨rfl, rfl⟩)
                | (go_at_call 110; (first | (with_reducible refine (I3.out _).mono ?_) | (with_reducible refine (I4.out _).mono ?_)); rintro e Y ⟨rfl, rfl⟩))
              go_ret
              exact ⟨rfl, HB.out⟩
          rw [if_neg k1]
          have z1 : (x1 == 1) = false := beq_eq_false_iff_ne.2 k1
          by_cases k2 : x1 = 2
          · subst k2
            rw [if_pos rfl]
            clear k1 z1
            by_cases hab : x3 = x2
            · subst hab
              have e : (x3 != x3) = false := by simp
              rw [e, Bool.false_and]
              cases b5
              all_goals
                go_enter Tryz.func51, Tryz.ntmps51
                go_wp2_with (first
                  | (go_at_call 109; (first | (with_reducible refine (I1.out _).mono ?_) | (with_reducible refine (I2.out _).mono ?_) | (with_reducible refine (I5.out _).mono ?_)); rintro e Y ⟨rfl, rfl⟩)
                  | (go_at_call 110; (first | (with_reducible refine (I3.out _).mono ?_) | (with_reducible refine (I4.out _).mono ?_)); rintro e Y ⟨rfl, rfl⟩))
                go_ret
                exact ⟨rfl, HB.out⟩
            · have e : (x2 != x3) = true := bne_iff_ne.2 (fun h => hab h.symm)
              have e2 : (x3 != x2) = true := bne_iff_ne.2 hab
              rw [e, Bool.true_and]
              clear hab e
              cases b5
              all_goals
                go_enter Tryz.func51, Tryz.ntmps51
                go_wp2_with (first
                  | (go_at_call 109; (first | (with_reducible refine (I1.out _).mono ?_) | (with_reducible refine (I2.out _).mono ?_) | (with_reducible refine (I5.out _).mono ?_)); rintro e Y ⟨rfl, rfl⟩)
                  | (go_at_call 110; (first | (with_reducible refine (I3.out _).mono ?_) | (with_reducible refine (I4.out _).mono ?_)); rintro e Y ⟨rfl, rfl⟩))
                go_ret
                exact ⟨rfl, HB.out⟩
          rw [if_neg k2]
          have z2 : (x1 == 2) = false := beq_eq_false_iff_ne.2 k2
          by_cases k3 : x1 = 3
          · subst k3
            rw [if_pos (.inl rfl)]
            clear k1 k2 z1 z2
            obtain ⟨d, hd⟩ : ∃ d, (x3 == 0) = d := ⟨_, rfl⟩
            rw [hd]
            cases d
            all_goals
              go_enter Tryz.func51, Tryz.ntmps51
              go_wp2_with (first
                | (go_at_call 109; (first | (with_reducible refine (I1.out _).mono ?_) | (with_reducible refine (I2.out _).mono ?_) | (with_reducible refine (I5.out _).mono ?_)); rintro e Y ⟨rfl, rfl⟩)
                | (go_at_call 110; (first | (with_reducible refine (I3.out _).mono ?_) | (with_reducible refine (I4.out _).mono ?_)); rintro e Y ⟨rfl, rfl⟩))
              go_ret
              exact ⟨rfl, HB.out⟩
          have z3 : (x1 == 3) = false := beq_eq_false_iff_ne.2 k3
          by_cases k4 : x1 = 4
          · subst k4
            rw [if_pos (.inr rfl)]
            clear k1 k2 k3 z1 z2 z3
            obtain ⟨d, hd⟩ : ∃ d, (x3 == 0) = d := ⟨_, rfl⟩
            rw [hd]
            cases d
            all_goals
              go_enter Tryz.func51, Tryz.ntmps51
              go_wp2_with (first
                | (go_at_call 109; (first | (with_reducible refine (I1.out _).mono ?_) | (with_reducible refine (I2.out _).mono ?_) | (with_reducible refine (I5.out _).mono ?_)); rintro e Y ⟨rfl, rfl⟩)
                | (go_at_call 110; (first | (with_reducible refine (I3.out _).mono ?_) | (with_reducible refine (I4.out _).mono ?_)); rintro e Y ⟨rfl, rfl⟩))
              go_ret
              exact ⟨rfl, HB.out⟩
          rw [if_neg (by omega)]
          have z4 : (x1 == 4) = false := beq_eq_false_iff_ne.2 k4
          clear k1 k2 k3 k4
          go_enter Tryz.func51, Tryz.ntmps51
          go_wp2_with (first
            | (go_at_call 109; (first | (with_reducible refine (I1.out _).mono ?_) | (with_reducible refine (I2.out _).mono ?_) | (with_reducible refine (I5.out _).mono ?_)); rintro e Y ⟨rfl, rfl⟩)
            | (go_at_call 110; (first | (with_reducible refine (I3.out _).mono ?_) | (with_reducible refine (I4.out _).mono ?_)); rintro e Y ⟨rfl, rfl⟩))
          go_ret
          exact ⟨rfl, HB.out⟩
set_option maxRecDepth 100000 in
set_option maxHeartbeats 4000000 in
theorem r33counts_any (x : En) (day time : Int) (w : World) : Calls Tryz.prog 130 #[x.val, .int .i64 day, .int .i64 time] w fun e w' => e = .returned (.bool (cntB day time x)) ∧ Below w.heap.size w w' := by
  have hB := (Below.refl w.heap.size w).alloc (Nat.le_refl _) (.cells #[.int .i64 x.no, .int .i64 x.kind, .int .i64 x.a, .int .i64 x.b, .int .i64 x.from_, .int .i64 x.until_, .int .i64 x.known, .int .i64 x.gone] 49)
  unfold cntB En.val
  obtain ⟨x0, x1, x2, x3, x4, x5, x6, x7⟩ := x
  simp only at hB ⊢
  have HB := Lib.hid hB
  clear hB
  obtain ⟨b1, h1⟩ : ∃ b, decide (x4 ≤ day) = b := ⟨_, rfl⟩
  obtain ⟨b2, h2⟩ : ∃ b, decide (day < x5) = b := ⟨_, rfl⟩
  obtain ⟨b3, h3⟩ : ∃ b, decide (x6 ≤ time) = b := ⟨_, rfl⟩
  obtain ⟨b4, h4⟩ : ∃ b, decide (time < x7) = b := ⟨_, rfl⟩
  rw [h1, h2, h3, h4]
  cases b1 <;> cases b2 <;> cases b3 <;> cases b4
  all_goals
    go_enter Tryz.func130, Tryz.ntmps130
    go_wp2
    go_ret
    exact ⟨rfl, HB.out⟩
set_option maxRecDepth 100000 in
set_option maxHeartbeats 8000000 in
theorem r33replaces_any (x y : En) (w : World) : Calls Tryz.prog 131 #[x.val, y.val] w fun e w' => e = .returned (.bool (repB x y)) ∧ Below w.heap.size w w' := by
  have hB := ((Below.refl w.heap.size w).alloc (Nat.le_refl _) (.cells #[.int .i64 x.no, .int .i64 x.kind, .int .i64 x.a, .int .i64 x.b, .int .i64 x.from_, .int .i64 x.until_, .int .i64 x.known, .int .i64 x.gone] 49)).alloc (by simp) (.cells #[.int .i64 y.no, .int .i64 y.kind, .int .i64 y.a, .int .i64 y.b, .int .i64 y.from_, .int .i64 y.until_, .int .i64 y.known, .int .i64 y.gone] 49)
  have hr := rowAt2 w [.int .i64 x.no, .int .i64 x.kind, .int .i64 x.a, .int .i64 x.b, .int .i64 x.from_, .int .i64 x.until_, .int .i64 x.known, .int .i64 x.gone] [.int .i64 y.no, .int .i64 y.kind, .int .i64 y.a, .int .i64 y.b, .int .i64 y.from_, .int .i64 y.until_, .int .i64 y.known, .int .i64 y.gone] 49 49
  obtain ⟨p0, p1, p2, p3, p4, p5, p6, p7⟩ := st8e hr
  unfold repB En.val
  obtain ⟨x0, x1, x2, x3, x4, x5, x6, x7⟩ := x
  obtain ⟨y0, y1, y2, y3, y4, y5, y6, y7⟩ := y
  simp only at hB p0 p1 p2 p3 p4 p5 p6 p7 ⊢
  have HB := Lib.hid hB
  clear hB hr p3 p5 p6 p7
  by_cases h1 : x1 = y1
  · have e1 : (x1 == y1) = true := by rw [h1]; simp
    have f1 : (x1 != y1) = false := by rw [h1]; simp
    by_cases h2 : x2 = y2
    · have e2 : (x2 == y2) = true := by rw [h2]; simp
      have f2 : (x2 != y2) = false := by rw [h2]; simp
      by_cases h3 : x1 = 1 ∨ x1 = 2
      · have e3 : (x1 == 1 || x1 == 2) = true := by rcases h3 with h | h <;> rw [h] <;> rfl
        rw [e1, e2, e3, Bool.true_and, Bool.true_and, Bool.true_and]
        subst h1 h2
        clear e1 e2 e3
        obtain ⟨d1, g1⟩ : ∃ b, decide (y4 < x4) = b := ⟨_, rfl⟩
        obtain ⟨d2, g2⟩ : ∃ b, (x4 == y4) = b := ⟨_, rfl⟩
        obtain ⟨d3, g3⟩ : ∃ b, decide (y0 < x0) = b := ⟨_, rfl⟩
        rw [g1, g2, g3]
        rcases h3 with h | h
        · subst h
          clear f1 f2
          cases d1 <;> cases d2 <;> cases d3
          all_goals
            go_enter Tryz.func131, Tryz.ntmps131
            go_wp2
            go_ret
            exact ⟨rfl, HB.out⟩
        · subst h
          clear f1 f2
          cases d1 <;> cases d2 <;> cases d3
          all_goals
            go_enter Tryz.func131, Tryz.ntmps131
            go_wp2
            go_ret
            exact ⟨rfl, HB.out⟩
      · have e3 : (x1 == 1 || x1 == 2) = false := by
          rw [Bool.or_eq_false_iff]; exact ⟨beq_eq_false_iff_ne.2 (fun h => h3 (.inl h)), beq_eq_false_iff_ne.2 (fun h => h3 (.inr h))⟩
        have q1 : (x1 != 1) = true := bne_iff_ne.2 (fun h => h3 (.inl h))
        have q2 : (x1 != 2) = true := bne_iff_ne.2 (fun h => h3 (.inr h))
        rw [e3, Bool.false_and, Bool.and_false, Bool.and_false]
        subst h1 h2
        clear e1 e2 e3 h3 f1 f2
        go_enter Tryz.func131, Tryz.ntmps131
        go_wp2
        go_ret
        exact ⟨rfl, HB.out⟩
    · have e2 : (x2 == y2) = false := beq_eq_false_iff_ne.2 h2
      have f2 : (x2 != y2) = true := bne_iff_ne.2 h2
      rw [e2, Bool.false_and, Bool.and_false]
      subst h1
      clear e1 e2 f1 h2
      go_enter Tryz.func131, Tryz.ntmps131
      go_wp2
      go_ret
      exact ⟨rfl, HB.out⟩
  · have e1 : (x1 == y1) = false := beq_eq_false_iff_ne.2 h1
    have f1 : (x1 != y1) = true := bne_iff_ne.2 h1
    rw [e1, Bool.false_and]
    clear e1 h1
    go_enter Tryz.func131, Tryz.ntmps131
    go_wp2
    go_ret
    exact ⟨rfl, HB.out⟩
end Go.Proofs.YthckledagggoiaaGreatDoor
