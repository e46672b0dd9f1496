import Derived.Test.YtlbnbginippjfaaElS
import Derived.Test.YtlbnbginippjfaaEl14
import Derived.Test.YtlbnbginippjfaaElQ
set_option linter.unusedSimpArgs false
set_option linter.unusedVariables false
namespace Go.Proofs.Ytlbnbginippjfaa
open Go.RowKit Fk

section
variable (w : World)
theorem pub_c1 : Calls Try.prog 12 #[.int .i64 2] w fun e w' => e = .returned (.tuple #[.int .i64 16, .int .i64 0]) ∧ Below w.heap.size w w' := by
  have := public_any 2 w
  rwa [pub_2.1, pub_2.2] at this
theorem pub_c2 : Calls Try.prog 12 #[.int .i64 0] w fun e w' => ∃ x, e = .returned (.tuple #[.int .i64 x, .int .i64 110]) ∧ Below w.heap.size w w' := by
  have := public_any 0 w
  rw [pub_0] at this
  exact this.mono fun e w' ⟨h1, h2⟩ => ⟨_, h1, h2⟩
theorem sl_new (l : List Int) (a : Array Value) (h : (l.flatMap encI).toArray = a) (hl : l.length ≤ 9223372036854775807) (n : Nat) (hn : n = l.length) :
    SlI (w.alloc (.cells a 3)) (w.alloc (.cells a 3)).heap.size (.slice (some ⟨w.heap.size, 0, none⟩) n n) l := by
  subst h; subst hn
  exact (Row.new w 3 (l.flatMap encI)).sl (fun _ => rfl) hl (by simp)
theorem join_c1 : Calls Try.prog 14 #[.slice (some ⟨w.heap.size, 0, none⟩) 2 2] (w.alloc (.cells #[.int .i64 4, .int .i64 16] 3)) fun e w' => e = .returned (.tuple #[.int .i64 64, .int .i64 0]) ∧ Below w.heap.size w w' := by
  have := join_any [4, 16] _ _ _ (sl_new w [4, 16] #[.int .i64 4, .int .i64 16] rfl (by simp) 2 rfl)
  rw [join_ex.1, join_ex.2] at this
  exact this.mono fun e w' ⟨h1, h2⟩ => ⟨h1, h2 ▸ below_alloc _ _⟩
theorem join_c2 : Calls Try.prog 14 #[.slice none 0 0] w fun e w' => e = .returned (.tuple #[.int .i64 1, .int .i64 0]) ∧ w = w' := by
  have := join_any [] (.slice none 0 0) w 0 (SlG.nil_ _ _)
  rwa [join_nil.1, join_nil.2] at this
theorem seal_c1 : Calls Try.prog 16 #[.int .i64 16, .agg #[.int .i64 1, .int .i64 4, .int .i64 9], .agg #[.int .i64 0, .int .i64 1, .int .i64 2]] w fun e w' =>
    e = .returned (.tuple #[.agg #[.int .i64 1, .int .i64 1, .int .i64 4, .int .i64 64, .int .i64 16, .int .i64 2304], .int .i64 0]) ∧ Below w.heap.size w w' := by
  have := seal_any 16 ⟨1, 4, 9⟩ ⟨0, 1, 2⟩ w
  rw [seal_ex.1, seal_ex.2] at this
  exact this
theorem seal_c2 : Calls Try.prog 16 #[.int .i64 4, .agg #[.int .i64 0, .int .i64 1, .int .i64 1], .agg #[.int .i64 0, .int .i64 0, .int .i64 0]] w fun e w' =>
    ∃ S : Se, e = .returned (.tuple #[.agg #[.int .i64 S.x.a, .int .i64 S.x.b, .int .i64 S.y.a, .int .i64 S.y.b, .int .i64 S.z.a, .int .i64 S.z.b], .int .i64 100]) ∧ Below w.heap.size w w' := by
  have := seal_any 4 ⟨0, 1, 1⟩ ⟨0, 0, 0⟩ w
  rw [seal_ex2] at this
  exact this.mono fun e w' ⟨h1, h2⟩ => ⟨_, h1, h2⟩
theorem strip_c1 : Calls Try.prog 23 #[.int .i64 2, .agg #[.int .i64 1, .int .i64 1, .int .i64 4, .int .i64 64, .int .i64 16, .int .i64 2304]] w fun e w' =>
    e = .returned (.tuple #[.agg #[.int .i64 1, .int .i64 1, .int .i64 4, .int .i64 4, .int .i64 16, .int .i64 9], .int .i64 0]) ∧ Below w.heap.size w w' := by
  have := strp_any 2 sE1 w
  rw [strip_ex.1, strip_ex.2] at this
  exact this
theorem read_c1 : Calls Try.prog 24 #[.agg #[.int .i64 1, .int .i64 1, .int .i64 4, .int .i64 4, .int .i64 16, .int .i64 9]] w fun e w' =>
    e = .returned (.tuple #[.agg #[.int .i64 1, .int .i64 4, .int .i64 9], .int .i64 0]) ∧ Below w.heap.size w w' := by
  have := read_any sE2 w
  rw [read_ex, show chS sE2 = 0 by simp [chS, ok_E2]] at this
  exact this
theorem again_c1 : Calls Try.prog 18 #[.int .i64 16, .agg #[.int .i64 1, .int .i64 1, .int .i64 4, .int .i64 64, .int .i64 16, .int .i64 2304], .agg #[.int .i64 1, .int .i64 0, .int .i64 (-1)]] w fun e w' =>
    e = .returned (.tuple #[.agg #[.int .i64 4, .int .i64 16, .int .i64 4, .int .i64 64, .int .i64 4, .int .i64 144], .int .i64 0]) ∧ Below w.heap.size w w' := by
  have := again_any 16 sE1 ⟨1, 0, -1⟩ w
  rw [again_ex.1, again_ex.2] at this
  exact this
theorem chk_c0 : Calls Try.prog 25 #[.agg #[.int .i64 0, .int .i64 0, .int .i64 0, .int .i64 0, .int .i64 0, .int .i64 0]] w fun e w' => e = .returned (.int .i64 100) ∧ Below w.heap.size w w' := by
  have := echeck_any default w
  rw [ch_0] at this
  exact this
theorem chk_c1 : Calls Try.prog 25 #[.agg #[.int .i64 1, .int .i64 1, .int .i64 4, .int .i64 64, .int .i64 16, .int .i64 2304]] w fun e w' => e = .returned (.int .i64 0) ∧ Below w.heap.size w w' := by
  have := echeck_any sE1 w
  rw [ch_E1] at this
  exact this
end

theorem row6 {W : World} {b : Nat} {t : TypeId} {a0 a1 a2 a3 a4 a5 : Value} (h : Row W b t [a0, a1, a2, a3, a4, a5]) : W.cell? ⟨b, 0, none⟩ = some a0 ∧ W.cell? ⟨b, 1, none⟩ = some a1 ∧ W.cell? ⟨b, 2, none⟩ = some a2 ∧ W.cell? ⟨b, 3, none⟩ = some a3 ∧ W.cell? ⟨b, 4, none⟩ = some a4 ∧ W.cell? ⟨b, 5, none⟩ = some a5 :=
  ⟨Row.cell h 0, Row.cell h 1, Row.cell h 2, Row.cell h 3, Row.cell h 4, Row.cell h 5⟩
theorem row3 {W : World} {b : Nat} {t : TypeId} {a0 a1 a2 : Value} (h : Row W b t [a0, a1, a2]) : W.cell? ⟨b, 0, none⟩ = some a0 ∧ W.cell? ⟨b, 1, none⟩ = some a1 ∧ W.cell? ⟨b, 2, none⟩ = some a2 :=
  ⟨Row.cell h 0, Row.cell h 1, Row.cell h 2⟩
/-- a call behind a new block -/
theorem stepA {w w1 w2 : World} {vs : List Value} {t : TypeId} (hB : Below w.heap.size w w1) (hb : Below (w1.alloc (.cells vs.toArray t)).heap.size (w1.alloc (.cells vs.toArray t)) w2) :
    Below w.heap.size w w2 ∧ w1.heap.size < w2.heap.size ∧ Row w2 w1.heap.size t vs ∧ (∀ g t vs, Row w1 g t vs → Row w2 g t vs) := by
  have h1 := hb.size
  have h2 := hB.size
  simp at h1
  refine ⟨(hB.trans ((below_alloc w1 _).mono h2)).trans (hb.mono (by simp; omega)), by omega, ?_, fun g t vs h => ?_⟩
  · exact Row.keep (row_at (w := w1) rfl t vs) (hb.block _ (by simp))
  · exact Row.keep (Row.alloc h _) (hb.block _ (by have := Row.lt h; simp; omega))

theorem eqv_1 (w : World) : (Op.equalIn 10000 34 (.agg #[.int .i64 1, .int .i64 1, .int .i64 4, .int .i64 64, .int .i64 16, .int .i64 2304]) (.agg #[.int .i64 1, .int .i64 1, .int .i64 4, .int .i64 64, .int .i64 16, .int .i64 2304])).run Try.prog w = .ok true w := by
  have := runS sE1 sE1 w; rw [eqSe_self] at this; exact this
theorem eqv_2 (w : World) : (Op.equalIn 10000 34 (.agg #[.int .i64 1, .int .i64 1, .int .i64 4, .int .i64 4, .int .i64 16, .int .i64 9]) (.agg #[.int .i64 1, .int .i64 1, .int .i64 4, .int .i64 4, .int .i64 16, .int .i64 9])).run Try.prog w = .ok true w := by
  have := runS sE2 sE2 w; rw [eqSe_self] at this; exact this
theorem eqv_3 (w : World) : (Op.equalIn 10000 34 (.agg #[.int .i64 4, .int .i64 16, .int .i64 4, .int .i64 64, .int .i64 4, .int .i64 144]) (.agg #[.int .i64 4, .int .i64 16, .int .i64 4, .int .i64 64, .int .i64 4, .int .i64 144])).run Try.prog w = .ok true w := by
  have := runS sE3 sE3 w; rw [eqSe_self] at this; exact this
theorem eqv_4 (w : World) : (Op.equalIn 10000 30 (.agg #[.int .i64 1, .int .i64 4, .int .i64 9]) (.agg #[.int .i64 1, .int .i64 4, .int .i64 9])).run Try.prog w = .ok true w := by
  have := runT ⟨1, 4, 9⟩ ⟨1, 4, 9⟩ w; rw [eqTr_self] at this; exact this

set_option maxRecDepth 100000 in
set_option maxHeartbeats 4000000 in
theorem sane10 (w : World) : Calls Try.prog 11 #[] w fun e w' => e = .returned (.bool true) ∧ Below w.heap.size w w' := by
  have hB : Below w.heap.size w w := Below.refl _ _
  have e1 := eqv_1
  have e2 := eqv_2
  have e3 := eqv_3
  have e4 := eqv_4
  go_enter Try.func11, Try.ntmps11
  go_wp2_with (first
    | (go_at_call 12; (with_reducible refine (pub_c1 _).mono ?_); rintro e w1 ⟨rfl, hb⟩; replace hB := hB.trans (hb.mono hB.size); clear hb)
    | (go_at_call 12; (with_reducible refine (pub_c2 _).mono ?_); rintro e w1 ⟨x, rfl, hb⟩; replace hB := hB.trans (hb.mono hB.size); clear hb)
    | (go_at_call 14; (with_reducible refine (join_c1 _).mono ?_); rintro e w1 ⟨rfl, hb⟩; replace hB := hB.trans (hb.mono hB.size); clear hb)
    | (go_at_call 14; (with_reducible refine (join_c2 _).mono ?_); rintro e w1 ⟨rfl, rfl⟩)
    | (go_at_call 16; (with_reducible refine (seal_c1 _).mono ?_); rintro e w1 ⟨rfl, hb⟩; replace hB := hB.trans (hb.mono hB.size); clear hb)
    | (go_at_call 16; (with_reducible refine (seal_c2 _).mono ?_); rintro e w2 ⟨S, rfl, hb⟩; obtain ⟨hB2, hz1, h1, hk⟩ := stepA hB hb; clear hb hk hB; obtain ⟨q0, q1, q2, q3, q4, q5⟩ := row6 h1)
    | (go_at_call 23; (with_reducible refine (strip_c1 _).mono ?_); rintro e w3 ⟨rfl, hb⟩; obtain ⟨hB3, hz2, _, hk⟩ := stepA hB2 hb; replace h1 := hk _ _ _ h1; clear hb hk hB2 q0 q1 q2 q3 q4 q5)
    | (go_at_call 24; (with_reducible refine (read_c1 _).mono ?_); rintro e w4 ⟨rfl, hb⟩; obtain ⟨hB4, hz3, h2, hk⟩ := stepA hB3 hb; have hz13 := Nat.lt_trans hz1 (Nat.lt_trans hz2 hz3); replace h1 := hk _ _ _ h1; clear hb hk hB3; obtain ⟨q0, q1, q2, q3, q4, q5⟩ := row6 h1)
    | (go_at_call 18; (with_reducible refine (again_c1 _).mono ?_); rintro e w5 ⟨rfl, hb⟩; obtain ⟨hB5, hz4, h3, hk⟩ := stepA hB4 hb; have hz14 := Nat.lt_trans hz13 hz4; have hz24 := Nat.lt_trans hz3 hz4; replace h1 := hk _ _ _ h1; replace h2 := hk _ _ _ h2; clear hb hk hB4 q0 q1 q2 q3 q4 q5; obtain ⟨q0, q1, q2, q3, q4, q5⟩ := row6 h1; obtain ⟨r0, r1, r2, r3, r4, r5⟩ := row6 h2; obtain ⟨t0, t1, t2⟩ := row3 h3)
    | (go_at_call 25; (with_reducible refine (chk_c0 _).mono ?_); rintro e w6 ⟨rfl, hb⟩; obtain ⟨hB6, hz5, _, hk⟩ := stepA hB5 hb; have hz15 := Nat.lt_trans hz14 hz5; replace h1 := hk _ _ _ h1; clear hb hk hB5 q0 q1 q2 q3 q4 q5 r0 r1 r2 r3 r4 r5 t0 t1 t2; obtain ⟨q0, q1, q2, q3, q4, q5⟩ := row6 h1)
    | (go_at_call 25; (with_reducible refine (chk_c1 _).mono ?_); rintro e w7 ⟨rfl, hb⟩; replace hB6 := hB6.trans (hb.mono hB6.size); clear hb))
  go_ret
  exact ⟨rfl, hB6⟩
end Go.Proofs.Ytlbnbginippjfaa
