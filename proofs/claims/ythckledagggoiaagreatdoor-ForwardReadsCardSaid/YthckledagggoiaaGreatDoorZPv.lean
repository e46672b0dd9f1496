import Derived.Test.YthckledagggoiaaGreatDoorZMg
import Derived.ChangeKeysEq
set_option linter.unusedSimpArgs false
set_option linter.unusedVariables false
namespace Go.Proofs.YthckledagggoiaaGreatDoor
open Go.RowKit Go.MapKept Fk
/-! Pairs of integers as keys. -/
def pv (p : Int × Int) : Value := .agg #[.int .i64 p.1, .int .i64 p.2]
theorem pv_inj {p q : Int × Int} (h : pv p = pv q) : p = q := by
  obtain ⟨a, b⟩ := p
  obtain ⟨c, d⟩ := q
  unfold pv at h
  injection h with h
  have h := congrArg Array.toList h
  injection h with h1 h2
  injection h2 with h2 _
  injection h1 with _ h1
  injection h2 with _ h2
  exact Prod.ext h1 h2
theorem run2 (p q : Int × Int) (w : World) : (Op.equalIn 10000 59 (pv p) (pv q)).run Tryz.prog w = .ok (decide (p = q)) w := by
  have u3 := Tryz.underlying3
  have a3 := Tryz.isAgg3
  have z3 := Tryz.sizeOf3
  obtain ⟨a, b⟩ := p
  obtain ⟨c, d⟩ := q
  unfold pv
  rw [show (10000 : Nat) = 9999 + 1 from rfl, Op.equalIn]
  simp only [Sem.run_bind, run_underlying Tryz.underlying59, Result.andThen_ok]
  simp only [Std.Legacy.Range.forIn_eq_forIn_range', Std.Legacy.Range.size, Nat.sub_zero, Nat.add_sub_cancel, Nat.div_one, List.range'_succ, List.range'_zero, List.forIn_cons, List.forIn_nil]
  go_simp
  by_cases h1 : a = c <;> by_cases h2 : b = d <;> simp [h1, h2]
theorem ask_spec (x : Int × Int) (w : World) : ∀ (l : List MapEntry) (i : Nat), (∀ e ∈ l, ∃ p, e.key = pv p) →
    ((∀ e ∈ l, e.key ≠ pv x) ∧ (Instr.findAsking 59 (pv x) l i).run Tryz.prog w = .ok none w) ∨ (∃ j e, l[j]? = some e ∧ e.key = pv x ∧ (Instr.findAsking 59 (pv x) l i).run Tryz.prog w = .ok (some (i + j, e.val)) w)
  | [], i, _ => .inl ⟨by simp, by simp [Instr.findAsking]⟩
  | e :: l, i, h => by
    obtain ⟨p, hp⟩ := h e (by simp)
    have hr : (Op.equal 59 (pv x) e.key).run Tryz.prog w = .ok (decide (x = p)) w := by rw [hp]; exact run2 x p w
    by_cases hx : x = p
    · rw [decide_eq_true hx] at hr
      exact .inr ⟨0, e, rfl, by rw [hp, hx], by simp [Instr.findAsking, hr]⟩
    · rw [decide_eq_false hx] at hr
      have hne : e.key ≠ pv x := fun e2 => hx (pv_inj (by rw [← e2, hp]))
      rcases ask_spec x w l (i + 1) (fun y hy => h y (by simp [hy])) with ⟨h1, h2⟩ | ⟨j, y, h1, h2, h3⟩
      · exact .inl ⟨fun y hy => by rcases List.mem_cons.1 hy with rfl | hy; exact hne; exact h1 y hy, by simp [Instr.findAsking, hr, h2]⟩
      · exact .inr ⟨j + 1, y, by simpa using h1, h2, by simp [Instr.findAsking, hr, h3]; omega⟩
theorem find_spec (x : Int × Int) (w : World) (l : List MapEntry) (h : ∀ e ∈ l, ∃ p, e.key = pv p) :
    ((∀ e ∈ l, e.key ≠ pv x) ∧ (Instr.findKey 59 (pv x) l).run Tryz.prog w = .ok none w) ∨ (∃ j e, l[j]? = some e ∧ e.key = pv x ∧ (Instr.findKey 59 (pv x) l).run Tryz.prog w = .ok (some (j, e.val)) w) := by
  have hf : (Instr.findKey 59 (pv x) l).run Tryz.prog w = (Instr.findAsking 59 (pv x) l 0).run Tryz.prog w := by
    cases l with
    | nil => simp [Instr.findKey, Instr.findNow, Instr.findAsking, run_underlying Tryz.underlying59]
    | cons e l => simp [Instr.findKey, Instr.findNow, Instr.sameNow, run_underlying Tryz.underlying59]
  rw [hf]
  rcases ask_spec x w l 0 h with ⟨h1, h2⟩ | ⟨j, y, h1, h2, h3⟩
  · exact .inl ⟨h1, h2⟩
  · exact .inr ⟨j, y, h1, h2, by simpa using h3⟩
theorem check_pv (e : Bool) (a b : Int) (w : World) : (Instr.checkKey e 10000 59 (.agg #[.int .i64 a, .int .i64 b])).run Tryz.prog w = .ok () w := by
  cases e <;> kernel_rfl
theorem stays_pv (a : Int × Int) (w : World) : (Instr.keyThatStays (pv a) (pv a)).run Tryz.prog w = .ok (pv a) w := by
  obtain ⟨x, y⟩ := a
  have h : Instr.sameBits 10000 (Value.agg #[.int .i64 x, .int .i64 y]) (Value.agg #[.int .i64 x, .int .i64 y]) = true := by simp [Instr.sameBits]
  simp [Instr.keyThatStays, pv, h]
theorem law_pair : KeyV Tryz.prog 59 pv where
  inj := pv_inj
  check em a w := check_pv em a.1 a.2 w
  find a w es h := find_spec a w es h
  stays := stays_pv
end Go.Proofs.YthckledagggoiaaGreatDoor
