import Derived.Test.YthckledagggoiaaGreatDoorFo
set_option linter.unusedSimpArgs false
set_option linter.unusedVariables false
namespace Go.Proofs.YthckledagggoiaaGreatDoor
open Go.RowKit Go.WideShapes Go.ChangeShapes Go.ChangeMaps Go.Deep Go.Shelf Fk Sha
/-! An entry as an argument. -/
section
variable {H : Type} {enc : TypeId × Value → H} {w : World} {base : Nat} {r : Reach}
set_option maxRecDepth 100000 in
theorem open_ent {v : Value} {d : DataW H} {p : List MemPlace} (hv : Value.okWide Tryz.prog w r base 49 v) (h : DataW.Trod enc Tryz.prog w 0 (fun _ => true) true 49 v d p) :
    ∃ t : En, v = t.val ∧ True := by
  obtain ⟨fuel, hf⟩ := h
  have hag : ∃ cs, v = .agg cs ∧ cs.size = 8 := by
    simp only [Value.okWide, Tryz.underlying49] at hv
    obtain ⟨cs, h1, h2, _⟩ := hv
    exact ⟨cs, h1, h2.trans (by kernel_rfl)⟩
  obtain ⟨⟨cs⟩, rfl, hs⟩ := hag
  have hs8 : cs.length = 8 := by simpa using hs
  obtain ⟨a, _, e⟩ := el_en (cs := cs) hs8 hf
  subst e
  exact ⟨a, rfl, trivial⟩
end
end Go.Proofs.YthckledagggoiaaGreatDoor
