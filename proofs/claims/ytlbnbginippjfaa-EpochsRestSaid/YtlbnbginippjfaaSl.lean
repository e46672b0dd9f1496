import Derived.Below
import Derived.WalkSmall
import Derived.RangeFuncBox
/-! Slices that read as lists; blocks that are known whole. -/
namespace Fk
open Go Go.RowKit

theorem bcellK {W w1 : World} (hb : Below W.heap.size W w1) : (∀ b o, b < W.heap.size → w1.cell? ⟨b, o, none⟩ = W.cell? ⟨b, o, none⟩) ∧ (∀ b o, b < W.heap.size → w1.frozen? ⟨b, o, none⟩ = W.frozen? ⟨b, o, none⟩) :=
  ⟨fun b o h => hb.cell (p := ⟨b, o, none⟩) h, fun b o h => hb.frozen (p := ⟨b, o, none⟩) h⟩

section
variable {α : Type} [Inhabited α] {m : Nat} {enc : α → List Value}
/-- the cells from offset off of block b on are the elements of l, m cells each -/
def CellsG (m : Nat) (enc : α → List Value) (w : World) (b off : Nat) (l : List α) : Prop :=
  ∀ i, i < l.length → ∀ j, j < m → w.cell? ⟨b, off + i * m + j, none⟩ = some ((enc (l.getD i default)).getD j undef)
/-- a slice value that reads as the list l, whose cells lie below block B0 -/
def SlG (m : Nat) (enc : α → List Value) (w : World) (B0 : Nat) (v : Value) (l : List α) : Prop :=
  l.length ≤ 9223372036854775807 ∧ ∃ (A : Option Addr) (c : Nat), v = .slice A l.length c ∧ (0 < l.length → ∃ b off, A = some ⟨b, off, none⟩ ∧ b < B0 ∧ CellsG m enc w b off l)
theorem CellsG.keep {w w' : World} {b off : Nat} {l : List α} (h : CellsG m enc w b off l) (hk : w'.heap[b]? = w.heap[b]?) : CellsG m enc w' b off l :=
  fun i hi j hj => (World.cell?_of_block (w := w) hk).trans (h i hi j hj)
theorem SlG.keep {w w' : World} {B0 : Nat} {v : Value} {l : List α} (h : SlG m enc w B0 v l) (hk : ∀ b, b < B0 → w'.heap[b]? = w.heap[b]?) : SlG m enc w' B0 v l := by
  obtain ⟨hl, A, c, rfl, h⟩ := h
  refine ⟨hl, A, c, rfl, fun hp => ?_⟩
  obtain ⟨b, off, rfl, hb, hE⟩ := h hp
  exact ⟨b, off, rfl, hb, hE.keep (hk b hb)⟩
theorem SlG.below {w w' : World} {B0 : Nat} {v : Value} {l : List α} (h : SlG m enc w B0 v l) (hb : Below B0 w w') : SlG m enc w' B0 v l := h.keep hb.block
theorem SlG.belowN {w w' : World} {B0 n : Nat} {v : Value} {l : List α} (h : SlG m enc w B0 v l) (hb : Below n w w') (hn : B0 ≤ n) : SlG m enc w' B0 v l := h.below (hb.mono hn)
theorem SlG.mono {w : World} {B0 B1 : Nat} {v : Value} {l : List α} (h : SlG m enc w B0 v l) (hB : B0 ≤ B1) : SlG m enc w B1 v l := by
  obtain ⟨hl, A, c, rfl, h⟩ := h
  refine ⟨hl, A, c, rfl, fun hp => ?_⟩
  obtain ⟨b, off, rfl, hb, hE⟩ := h hp
  exact ⟨b, off, rfl, by omega, hE⟩
theorem SlG.nil_ (w : World) (B0 : Nat) : SlG m enc w B0 (.slice none 0 0) ([] : List α) := ⟨by simp, none, 0, rfl, fun h => absurd h (by simp)⟩
end

/-- integers -/
def encI (n : Int) : List Value := [.int .i64 n]
abbrev SlI (w : World) (B0 : Nat) (v : Value) (l : List Int) : Prop := SlG 1 encI w B0 v l
theorem CellsG.int {w : World} {b off : Nat} {l : List Int} (h : CellsG 1 encI w b off l) {i : Nat} (hi : i < l.length) : w.cell? ⟨b, off + i, none⟩ = some (.int .i64 (l.getD i default)) := by
  have := h i hi 0 (by omega)
  simpa [encI] using this

/-- a block known whole -/
def Row (w : World) (g : Nat) (t : TypeId) (vs : List Value) : Prop := w.heap[g]? = some (.cells vs.toArray t (0, 0))
theorem Row.lt {w : World} {g : Nat} {t : TypeId} {vs : List Value} (h : Row w g t vs) : g < w.heap.size := (Array.getElem?_eq_some_iff.1 h).1
theorem Row.cell {w : World} {g : Nat} {t : TypeId} {vs : List Value} (h : Row w g t vs) (i : Nat) : w.cell? ⟨g, i, none⟩ = vs[i]? := by
  unfold Row at h; simp [World.cell?, h]
theorem Row.frozen {w : World} {g : Nat} {t : TypeId} {vs : List Value} (h : Row w g t vs) (i : Nat) : w.frozen? ⟨g, i, none⟩ = false := by
  unfold Row at h; simp [World.frozen?, h]
theorem Row.new (w : World) (t : TypeId) (vs : List Value) : Row (w.alloc (.cells vs.toArray t)) w.heap.size t vs := World.alloc_heap_new w _
theorem Row.keep {w w' : World} {g : Nat} {t : TypeId} {vs : List Value} (h : Row w g t vs) (hk : w'.heap[g]? = w.heap[g]?) : Row w' g t vs := hk.trans h
theorem Row.alloc {w : World} {g : Nat} {t : TypeId} {vs : List Value} (h : Row w g t vs) (o : Obj) : Row (w.alloc o) g t vs := h.keep (Below.heap_alloc w o g h.lt)
theorem Row.other {w : World} {g : Nat} {t : TypeId} {vs : List Value} (h : Row w g t vs) {p : Addr} (hp : g ≠ p.block) (u : Value) : Row (w.setCell p u) g t vs := h.keep (Below.heap_setCell w p u g hp)
theorem Row.below {w w' : World} {g n : Nat} {t : TypeId} {vs : List Value} (h : Row w g t vs) (hb : Below n w w') (hg : g < n) : Row w' g t vs := h.keep (hb.block g hg)
theorem Row.store {w : World} {g : Nat} {t : TypeId} {vs : List Value} (h : Row w g t vs) (i : Nat) (u : Value) : Row (w.setCell ⟨g, i, none⟩ u) g t (vs.set i u) := by
  unfold Row at h ⊢
  obtain ⟨hlt, hk⟩ := Array.getElem?_eq_some_iff.1 h
  show (w.heap.modify g _)[g]? = _
  rw [Array.getElem?_eq_getElem (by rw [Array.size_modify]; exact hlt), Array.getElem_modify_self, hk]
  simp
/-- a whole block reads as a list -/
theorem Row.sl {α : Type} [Inhabited α] {m : Nat} {enc : α → List Value} {w : World} {g c : Nat} {t : TypeId} {l : List α} (h : Row w g t (l.flatMap enc)) (hm : ∀ a, (enc a).length = m) (hl : l.length ≤ 9223372036854775807) {B0 : Nat} (hB : g < B0) :
    SlG m enc w B0 (.slice (some ⟨g, 0, none⟩) l.length c) l := by
  refine ⟨hl, _, _, rfl, fun _ => ⟨g, 0, rfl, hB, ?_⟩⟩
  have key : ∀ (l : List α) (i j : Nat), i < l.length → j < m → (l.flatMap enc)[i * m + j]? = some ((enc (l.getD i default)).getD j undef) := by
    intro l
    induction l with
    | nil => intro i j hi; simp at hi
    | cons a l ih =>
      intro i j hi hj
      rw [List.flatMap_cons]
      cases i with
      | zero =>
        rw [Nat.zero_mul, Nat.zero_add, List.getElem?_append_left (by rw [hm]; exact hj)]
        simp [hm, hj]
      | succ i =>
        rw [List.getElem?_append_right (by rw [hm, Nat.succ_mul]; omega), hm]
        have e : (i + 1) * m + j - m = i * m + j := by rw [Nat.succ_mul]; omega
        rw [e, ih i j (by simpa using hi) hj]
        simp
  intro i hi j hj
  rw [h.cell, Nat.zero_add, key l i j hi hj]
end Fk
