import Derived.Test.YtaheibbbdglcmaaDoorOpenG
import Derived.Test.YtaheibbbdglcmaaDoorDg4
import Derived.ChangeMaps5
namespace Go.Proofs.YtaheibbbdglcmaaDoor
open Go.RowKit Go.WideShapes Go.ChangeShapes Go.ChangeMaps Go.Deep Fk Sha
/-! Bytes and strings as arguments. -/
section
variable {H : Type} {enc : TypeId × Value → H} {w : World} {base : Nat} {r : Reach}
set_option maxRecDepth 100000 in
theorem open_str {v : Value} {d : DataW H} {p : List MemPlace} (hv : Value.okWide Tryd.prog w r base 9 v) (h : DataW.Trod enc Tryd.prog w 0 (fun _ => true) true 9 v d p) :
    ∃ s : ByteArray, v = .string s ∧ s.size ≤ maxLen := by
  obtain ⟨s, rfl, _, _, h2⟩ := open_string Tryd.underlying9 hv h
  exact ⟨s, rfl, h2⟩
set_option maxRecDepth 100000 in
theorem open_sl_b {v : Value} {d : DataW H} {p : List MemPlace} (hv : Value.okWide Tryd.prog w r base 22 v) (h : DataW.Trod enc Tryd.prog w 0 (fun _ => true) true 22 v d p) :
    ∃ l : List B, SlB w w.heap.size v l ∧ capB v := by
  obtain ⟨a, len, cap, rfl⟩ := okWide_slice Tryd.underlying22 hv
  obtain ⟨fuel, hf⟩ := h
  rw [cells_slice] at hf
  rcases open_ints Tryd.underlying22 Tryd.underlying5 (by kernel_rfl) hf with ⟨hcs, _⟩ | ⟨a', len', cap', zs, hcs, _, hl, hm, hz, _, hcell, hwf⟩
  · obtain ⟨rfl, rfl, rfl⟩ : a = none ∧ len = 0 ∧ cap = 0 := by simpa using hcs
    exact ⟨[], SlG.nil_ _ _, none, 0, 0, rfl, Nat.le_refl _, by omega, fun _ => rfl⟩
  · obtain ⟨rfl, rfl, rfl⟩ : a = some a' ∧ len = len' ∧ cap = cap' := by simpa using hcs
    simp only [if_true] at hz
    unfold maxLen at hm
    obtain ⟨l, h1, _⟩ := sl_of_cells (m := 1) (en := encB) (a := a') (len := len) (cap := cap) (w := w) (Q := fun _ => True) (by omega) (by omega) (fun i hi => ⟨BitVec.ofNat 8 (zs.getD i 0).toNat, trivial, fun j hj => by
      obtain rfl : j = 0 := by omega
      rw [Nat.mul_one, Nat.add_zero, hcell i (by omega)]
      have hw := hwf (zs.getD i 0) (by
        rw [List.getD_eq_getElem?_getD, List.getElem?_eq_getElem (by omega)]
        exact List.getElem_mem _)
      show some _ = some (bv _)
      unfold bv bn
      have hb : 0 ≤ zs.getD i 0 ∧ zs.getD i 0 ≤ 255 := bounds_u8 hw
      rw [BitVec.toNat_ofNat, Nat.mod_eq_of_lt (by omega), Int.toNat_of_nonneg hb.1]⟩)
    exact ⟨l, h1, some a', len, cap, rfl, hl, by omega, fun h => by cases h⟩
end
end Go.Proofs.YtaheibbbdglcmaaDoor
