import Derived.Test.YtlbnbginippjfaaEl4
import Derived.Test.YtlbnbginippjfaaEl5
namespace Go.Proofs.Ytlbnbginippjfaa
open Go.RowKit Fk
/-! What is known behind a call: the old blocks, the new one, the sizes. -/
theorem st6 {W : World} {b : Nat} {t : TypeId} {a0 a1 a2 a3 a4 a5 : Value} (h : Row W b t [a0, a1, a2, a3, a4, a5]) : W.cell? ⟨b, 0, none⟩ = some a0 ∧ W.cell? ⟨b, 1, none⟩ = some a1 ∧ W.cell? ⟨b, 2, none⟩ = some a2 ∧ W.cell? ⟨b, 3, none⟩ = some a3 ∧ W.cell? ⟨b, 4, none⟩ = some a4 ∧ W.cell? ⟨b, 5, none⟩ = some a5 :=
  ⟨Row.cell h 0, Row.cell h 1, Row.cell h 2, Row.cell h 3, Row.cell h 4, Row.cell h 5⟩
theorem st3 {W : World} {b : Nat} {t : TypeId} {a0 a1 a2 : Value} (h : Row W b t [a0, a1, a2]) : W.cell? ⟨b, 0, none⟩ = some a0 ∧ W.cell? ⟨b, 1, none⟩ = some a1 ∧ W.cell? ⟨b, 2, none⟩ = some a2 :=
  ⟨Row.cell h 0, Row.cell h 1, Row.cell h 2⟩
theorem st1 {W : World} {b : Nat} {t : TypeId} {a0 : Value} (h : Row W b t [a0]) : W.cell? ⟨b, 0, none⟩ = some a0 := Row.cell h 0
theorem step0 {w w1 w2 : World} (hB : Below w.heap.size w w1) (hb : Below w1.heap.size w1 w2) :
    Below w.heap.size w w2 ∧ w1.heap.size ≤ w2.heap.size ∧ (∀ g t vs, Row w1 g t vs → Row w2 g t vs) :=
  ⟨hB.trans (hb.mono hB.size), hb.size, fun _ _ _ h => Row.keep h (hb.block _ (Row.lt h))⟩
theorem step1 {w w1 w2 : World} {vs : List Value} {t : TypeId} (hB : Below w.heap.size w w1) (hb : Below (w1.alloc (.cells vs.toArray t)).heap.size (w1.alloc (.cells vs.toArray t)) w2) :
    Below w.heap.size w w2 ∧ w1.heap.size < w2.heap.size ∧ (∀ g t vs, Row w1 g t vs → Row w2 g t vs) ∧ Row w2 w1.heap.size t vs := by
  have h1 := hb.size
  have h2 := hB.size
  simp at h1
  refine ⟨(hB.trans ((below_alloc w1 _).mono h2)).trans (hb.mono (by simp; omega)), by omega, fun g t vs h => ?_, ?_⟩
  · exact Row.keep (Row.alloc h _) (hb.block _ (by have := Row.lt h; simp; omega))
  · exact Row.keep (row_at (w := w1) rfl t vs) (hb.block _ (by simp))
theorem stepP1 {w w2 : World} {v1 : List Value} {t1 : TypeId} (hb : Below (w.alloc (.cells v1.toArray t1)).heap.size (w.alloc (.cells v1.toArray t1)) w2) :
    Below w.heap.size w w2 ∧ w.heap.size < w2.heap.size ∧ Row w2 w.heap.size t1 v1 := by
  obtain ⟨a, b, _, c⟩ := step1 (Below.refl _ w) hb
  exact ⟨a, b, c⟩
theorem stepP2 {w w2 : World} {v1 v2 : List Value} {t1 t2 : TypeId} (hb : Below ((w.alloc (.cells v1.toArray t1)).alloc (.cells v2.toArray t2)).heap.size ((w.alloc (.cells v1.toArray t1)).alloc (.cells v2.toArray t2)) w2) :
    Below w.heap.size w w2 ∧ w.heap.size + 1 < w2.heap.size ∧ Row w2 w.heap.size t1 v1 ∧ Row w2 (w.heap.size + 1) t2 v2 := by
  obtain ⟨a, b, k, c⟩ := step1 (below_alloc w (.cells v1.toArray t1) |>.mono (Nat.le_refl _)) hb
  simp at b c
  exact ⟨a, b, k _ _ _ (Row.new w t1 v1), c⟩
theorem stepP3 {w w2 : World} {v1 v2 v3 : List Value} {t1 t2 t3 : TypeId} (hb : Below (((w.alloc (.cells v1.toArray t1)).alloc (.cells v2.toArray t2)).alloc (.cells v3.toArray t3)).heap.size (((w.alloc (.cells v1.toArray t1)).alloc (.cells v2.toArray t2)).alloc (.cells v3.toArray t3)) w2) :
    Below w.heap.size w w2 ∧ w.heap.size + 1 + 1 < w2.heap.size ∧ Row w2 w.heap.size t1 v1 ∧ Row w2 (w.heap.size + 1) t2 v2 ∧ Row w2 (w.heap.size + 1 + 1) t3 v3 := by
  obtain ⟨a, b, k, c⟩ := step1 (w := w) (w1 := (w.alloc (.cells v1.toArray t1)).alloc (.cells v2.toArray t2)) (((Below.refl _ w).alloc (Nat.le_refl _) _).alloc (by simp) _) hb
  simp at b c
  exact ⟨a, b, k _ _ _ ((Row.new w t1 v1).alloc _), k _ _ _ (row_at (by simp) t2 v2), c⟩
theorem stepP4 {w w2 : World} {v1 v2 v3 v4 : List Value} {t1 t2 t3 t4 : TypeId} (hb : Below ((((w.alloc (.cells v1.toArray t1)).alloc (.cells v2.toArray t2)).alloc (.cells v3.toArray t3)).alloc (.cells v4.toArray t4)).heap.size ((((w.alloc (.cells v1.toArray t1)).alloc (.cells v2.toArray t2)).alloc (.cells v3.toArray t3)).alloc (.cells v4.toArray t4)) w2) :
    Below w.heap.size w w2 ∧ w.heap.size + 1 + 1 + 1 < w2.heap.size ∧ Row w2 w.heap.size t1 v1 ∧ Row w2 (w.heap.size + 1) t2 v2 ∧ Row w2 (w.heap.size + 1 + 1) t3 v3 ∧ Row w2 (w.heap.size + 1 + 1 + 1) t4 v4 := by
  obtain ⟨a, b, k, c⟩ := step1 (w := w) (w1 := ((w.alloc (.cells v1.toArray t1)).alloc (.cells v2.toArray t2)).alloc (.cells v3.toArray t3)) ((((Below.refl _ w).alloc (Nat.le_refl _) _).alloc (by simp) _).alloc (by simp; omega) _) hb
  simp at b c
  exact ⟨a, b, k _ _ _ (((Row.new w t1 v1).alloc _).alloc _), k _ _ _ ((row_at (by simp) t2 v2).alloc _), k _ _ _ (row_at (by simp) t3 v3), c⟩
theorem lt_t {a b c : Nat} (h : a < b) (k : b ≤ c) : a < c := Nat.lt_of_lt_of_le h k
theorem lt_s {a b : Nat} (h : a + 1 < b) : a < b := by omega
end Go.Proofs.Ytlbnbginippjfaa
