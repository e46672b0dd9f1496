import Derived.Test.YthckledagggoiaaGreatDoorZMg
import Derived.Tactics
import Derived.Tactics2
import Derived.StillTactics
import Derived.WalkKit
import Derived.Laws.Small
import Derived.Laws.StructEq
import Derived.Laws.Tables
import Derived.KernelRfl
set_option linter.unusedSimpArgs false
set_option linter.unusedVariables false
namespace Go.Proofs.YthckledagggoiaaGreatDoor
open Go.RowKit Fk
/-! Entries are compared. -/
deriving instance DecidableEq for En
def eqE (s t : En) : Bool := s.no == t.no && (s.kind == t.kind && (s.a == t.a && (s.b == t.b && (s.from_ == t.from_ && (s.until_ == t.until_ && (s.known == t.known && s.gone == t.gone))))))
set_option maxHeartbeats 1000000 in
theorem runE (s t : En) (w : World) : (Op.equalIn 10000 49 s.val t.val).run Tryz.prog w = .ok (eqE s t) w := by
  have u3 := Tryz.underlying3
  have a3 := Tryz.isAgg3
  have z3 := Tryz.sizeOf3
  unfold En.val eqE
  have hS : Tryz.prog.underlying 49 = some (.struct (Tryz.prog.fieldsOf 49)) := by kernel_rfl
  rw [show (10000 : Nat) = 9998 + 1 + 1 from rfl, run_equalIn_struct w (9998 + 1) 49 _ _ hS (by kernel_rfl)]
  simp only [Program.fieldsOf, Tryz.underlying49]
  cases h1 : (s.no == t.no) with
  | false => go_simp
  | true =>
  cases h2 : (s.kind == t.kind) with
  | false => go_simp
  | true =>
  cases h3 : (s.a == t.a) with
  | false => go_simp
  | true =>
  cases h4 : (s.b == t.b) with
  | false => go_simp
  | true =>
  cases h5 : (s.from_ == t.from_) with
  | false => go_simp
  | true =>
  cases h6 : (s.until_ == t.until_) with
  | false => go_simp
  | true =>
  cases h7 : (s.known == t.known) with
  | false => go_simp
  | true => simp only [h1, h2, h3, h4, h5, h6, h7, Bool.true_and]; go_simp; by_cases h8 : s.gone = t.gone <;> simp [h8]
end Go.Proofs.YthckledagggoiaaGreatDoor
