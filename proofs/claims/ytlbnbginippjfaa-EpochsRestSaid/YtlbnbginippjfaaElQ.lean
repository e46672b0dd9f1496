import Derived.Test.YtlbnbginippjfaaElP
import Derived.Test.YtlbnbginippjfaaChecked
import Derived.Tactics
import Derived.Tactics2
import Derived.StillTactics
import Derived.WalkKit
import Derived.Laws.Small
import Derived.Laws.StructEq
import Derived.Laws.Tables
import Derived.KernelRfl
set_option linter.unusedSimpArgs false
namespace Go.Proofs.Ytlbnbginippjfaa
open Fk
def eqCi (s t : Ci) : Bool := s.a == t.a && s.b == t.b
def eqSe (s t : Se) : Bool := eqCi s.x t.x && (eqCi s.y t.y && eqCi s.z t.z)
def eqTr (s t : Tr) : Bool := s.p == t.p && (s.q == t.q && s.r == t.r)
theorem runC (d : Nat) (s t : Ci) (w : World) : (Op.equalIn (d + 1 + 1) 32 s.val t.val).run Try.prog w = .ok (eqCi s t) w := by
  have u3 := Try.underlying3
  have a3 := Try.isAgg3
  have z3 := Try.sizeOf3
  have hS : Try.prog.underlying 32 = some (.struct (Try.prog.fieldsOf 32)) := by kernel_rfl
  unfold Ci.val eqCi
  rw [run_equalIn_struct w (d + 1) 32 _ _ hS (by kernel_rfl)]
  simp only [Program.fieldsOf, Try.underlying32]
  go_simp
  by_cases h1 : s.a = t.a <;> by_cases h2 : s.b = t.b <;> simp [h1, h2]
theorem runT (s t : Tr) (w : World) : (Op.equalIn 10000 30 s.val t.val).run Try.prog w = .ok (eqTr s t) w := by
  have u3 := Try.underlying3
  have a3 := Try.isAgg3
  have z3 := Try.sizeOf3
  unfold Tr.val eqTr
  rw [show (10000 : Nat) = 9999 + 1 from rfl, Op.equalIn]
  simp only [Sem.run_bind, run_underlying Try.underlying30, Result.andThen_ok]
  simp only [Std.Legacy.Range.forIn_eq_forIn_range', Std.Legacy.Range.size, Nat.sub_zero, Nat.add_sub_cancel, Nat.div_one, List.range'_succ, List.range'_zero, List.forIn_cons, List.forIn_nil]
  go_simp
  by_cases h1 : s.p = t.p <;> by_cases h2 : s.q = t.q <;> by_cases h3 : s.r = t.r <;> simp [h1, h2, h3]
theorem partC (cs : Array Value) (k : Nat) (c : Ci) (h : cs.extract k (k + 2) = #[.int .i64 c.a, .int .i64 c.b]) (w : World) : (part 32 cs k).run Try.prog w = .ok c.val w := by
  have a3 := Try.isAgg32
  have z3 := Try.sizeOf32
  simp [part, a3, z3, go_sem, h, Ci.val]
theorem runS (s t : Se) (w : World) : (Op.equalIn 10000 34 s.val t.val).run Try.prog w = .ok (eqSe s t) w := by
  have z3 := Try.sizeOf32
  have e1 := fun w => runC 9997 s.x t.x w
  have e2 := fun w => runC 9997 s.y t.y w
  have e3 := fun w => runC 9997 s.z t.z w
  have hq : eqSe s t = (eqCi s.x t.x && (eqCi s.y t.y && eqCi s.z t.z)) := rfl
  rw [hq]
  clear hq
  unfold Se.val
  generalize eqCi s.x t.x = b1 at *
  generalize eqCi s.y t.y = b2 at *
  generalize eqCi s.z t.z = b3 at *
  rw [show (10000 : Nat) = 9999 + 1 from rfl, Op.equalIn]
  simp only [Sem.run_bind, run_underlying Try.underlying34, Result.andThen_ok]
  simp only [Std.Legacy.Range.forIn_eq_forIn_range', Std.Legacy.Range.size, Nat.sub_zero, Nat.add_sub_cancel, Nat.div_one, List.range'_succ, List.range'_zero, List.forIn_cons, List.forIn_nil]
  have h1 := fun w => partC (s.cells.toArray) 0 s.x rfl w
  have h2 := fun w => partC (s.cells.toArray) 2 s.y rfl w
  have h3 := fun w => partC (s.cells.toArray) 4 s.z rfl w
  have k1 := fun w => partC (t.cells.toArray) 0 t.x rfl w
  have k2 := fun w => partC (t.cells.toArray) 2 t.y rfl w
  have k3 := fun w => partC (t.cells.toArray) 4 t.z rfl w
  simp only [Se.cells] at h1 h2 h3 k1 k2 k3
  rw [show (9999 : Nat) = 9997 + 1 + 1 from rfl]
  cases b1 <;> cases b2 <;> cases b3 <;> simp only [z3, Result.andThen_ok, Nat.zero_mul, Nat.zero_add, Nat.one_mul, Nat.reduceMul, Nat.reduceAdd, Sem.run_bind, h1, h2, h3, k1, k2, k3, e1, e2, e3, Bool.not_true, Bool.not_false, Bool.false_eq_true, if_true, if_false, Sem.run_pure, Bool.and_self, Bool.and_true, Bool.and_false, Bool.true_and, Bool.false_and]
theorem eqCi_self (c : Ci) : eqCi c c = true := by simp [eqCi]
theorem eqSe_self (s : Se) : eqSe s s = true := by simp [eqSe, eqCi]
theorem eqTr_self (s : Tr) : eqTr s s = true := by simp [eqTr]
end Go.Proofs.Ytlbnbginippjfaa
