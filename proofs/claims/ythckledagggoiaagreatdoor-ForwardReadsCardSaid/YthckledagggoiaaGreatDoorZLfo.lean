import Derived.Test.YthckledagggoiaaGreatDoorZLf0
import Derived.Test.YthckledagggoiaaGreatDoorZFo
import Derived.OpenShut
import Derived.ChangeSlices
import Derived.ChangeSame
import Derived.Carry
set_option linter.unusedSimpArgs false
set_option linter.unusedVariables false
namespace Go.Proofs.YthckledagggoiaaGreatDoor
open Go.RowKit Go.WideShapes Go.ChangeShapes Go.ChangeMaps Go.Deep Go.Shelf Fk Sha
/-! Short arrays of integers as arguments. -/
section
variable {H : Type} {enc : TypeId × Value → H} {P : Program} {w : World} {base base' : Nat} {r : Reach} {sp : Nat → Bool} {held : Bool}
/-- an array of n integers -/
theorem open_arrI {t e : TypeId} {n : Nat} {v : Value} {d : DataW H} {p : List MemPlace} (ht : P.underlying t = some (.array n e)) (he : P.underlying e = some (.int .i64)) (hc : P.cellsOf t = n) (hce : P.cellsOf e = 1)
    (hv : Value.okWide P w r base t v) (h : DataW.Trod enc P w base' sp held t v d p) :
    ∃ L : List Int, L.length = n ∧ v = .agg (L.map (Value.int .i64)).toArray := by
  have hag : ∃ cs, v = .agg cs ∧ cs.size = P.cellsOf t := by
    simp only [Value.okWide, ht] at hv
    obtain ⟨cs, h1, h2, _⟩ := hv
    exact ⟨cs, h1, h2⟩
  obtain ⟨⟨cs⟩, rfl, hs⟩ := hag
  rw [hc] at hs
  have hs : cs.length = n := by simpa using hs
  obtain ⟨fuel, hf⟩ := h
  obtain ⟨xs, m, _, _, _, hl, hi⟩ := DataW.trod_array ht hf
  simp only [hce, Nat.mul_one] at hi
  have key : ∀ k, (hk : k < cs.length) → ∃ a : Int, cs[k] = .int .i64 a := fun k hk => by
    obtain ⟨y, g⟩ : ∃ y, xs[k]? = some y := ⟨xs[k]'(by omega), List.getElem?_eq_getElem (by omega)⟩
    obtain ⟨a, e0, _, _⟩ := DataW.trod_int he ((hi k (by omega)).trans g)
    refine ⟨a, ?_⟩
    have h1 : (cs.drop k).take 1 = [cs[k]] := by rw [List.drop_eq_getElem_cons hk, List.take_succ_cons, List.take_zero]
    have e1 : (cs.drop k).take 1 = [.int .i64 a] := e0
    rw [h1] at e1
    simpa using e1
  refine ⟨cs.map fun c => intOf c, by simpa using hs, ?_⟩
  congr 2
  refine List.ext_getElem (by simp) fun k hk hk2 => ?_
  obtain ⟨a, ha⟩ := key k hk
  simp [ha, intOf]
end
section
variable {H : Type} {enc : TypeId × Value → H} {w : World} {base : Nat} {r : Reach}
set_option maxRecDepth 100000 in
theorem open_o4 {v : Value} {d : DataW H} {p : List MemPlace} (hv : Value.okWide Tryz.prog w r base 58 v) (h : DataW.Trod enc Tryz.prog w 0 (fun _ => true) true 58 v d p) :
    ∃ t : O4, v = t.val ∧ True := by
  obtain ⟨L, hL, rfl⟩ := open_arrI Tryz.underlying58 Tryz.underlying3 (by kernel_rfl) (by kernel_rfl) hv h
  match L, hL with
  | [a, b, c, d], _ => exact ⟨⟨a, b, c, d⟩, rfl, trivial⟩
set_option maxRecDepth 100000 in
theorem open_p2 {v : Value} {d : DataW H} {p : List MemPlace} (hv : Value.okWide Tryz.prog w r base 59 v) (h : DataW.Trod enc Tryz.prog w 0 (fun _ => true) true 59 v d p) :
    ∃ t : P2, v = t.val ∧ True := by
  obtain ⟨L, hL, rfl⟩ := open_arrI Tryz.underlying59 Tryz.underlying3 (by kernel_rfl) (by kernel_rfl) hv h
  match L, hL with
  | [a, b], _ => exact ⟨⟨a, b⟩, rfl, trivial⟩
set_option maxRecDepth 100000 in
theorem open_m3 {v : Value} {d : DataW H} {p : List MemPlace} (hv : Value.okWide Tryz.prog w r base 60 v) (h : DataW.Trod enc Tryz.prog w 0 (fun _ => true) true 60 v d p) :
    ∃ t : Tr, v = t.val ∧ True := by
  obtain ⟨L, hL, rfl⟩ := open_arrI Tryz.underlying60 Tryz.underlying3 (by kernel_rfl) (by kernel_rfl) hv h
  match L, hL with
  | [a, b, c], _ => exact ⟨⟨a, b, c⟩, rfl, trivial⟩
end
end Go.Proofs.YthckledagggoiaaGreatDoor
