import Derived.Test.YthckledagggoiaaGreatDoorZPh
import Derived.Test.YthckledagggoiaaGreatDoorZAsL1
set_option linter.unusedSimpArgs false
set_option linter.unusedVariables false
namespace Go.Proofs.YthckledagggoiaaGreatDoor
open Go.RowKit Go.MapKept Go.Shelf Fk
/-! The examples with which each statement of frankinglaw35 begins. -/
theorem aliasN_bd (s p o : Int) : 1 ≤ aliasN s p o ∧ aliasN s p o ≤ 1073741789 := by
  unfold aliasN
  obtain ⟨x, hx⟩ : ∃ x, powC 4 (if 1 < aliasH s p o then aliasH s p o else 1) = x := ⟨_, rfl⟩
  have hv2 := vld_powC vld_4 (if 1 < aliasH s p o then aliasH s p o else 1)
  rw [hx] at hv2 ⊢
  have l1 := vld_lo hv2
  have l2 := vld_hi hv2
  unfold numC
  rw [if_pos hv2]
  split <;> omega
theorem sl_newE (w : World) (l : List En) (a : Array Value) (h : (l.flatMap En.cells).toArray = a) (hl : l.length ≤ 9223372036854775807) (n : Nat) (hn : n = l.length) :
    SlE (w.alloc (.cells a 49)) (w.alloc (.cells a 49)).heap.size (.slice (some ⟨w.heap.size, 0, none⟩) n n) l := by
  subst h; subst hn
  exact (Row.new w 49 (l.flatMap En.cells)).sl (fun _ => rfl) hl (by simp)
end Go.Proofs.YthckledagggoiaaGreatDoor
