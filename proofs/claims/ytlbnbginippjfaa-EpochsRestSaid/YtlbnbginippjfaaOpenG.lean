import Derived.Test.YtlbnbginippjfaaSl
import Derived.Test.YtlbnbginippjfaaChecked
import Derived.OpenShut
import Derived.ChangeSlices
import Derived.Deep.Slices
import Derived.Deep.Fields
import Derived.ChangeSame
import Derived.Carry
namespace Go.Proofs.Ytlbnbginippjfaa
open Go.RowKit Go.WideShapes Go.ChangeShapes Go.Deep Fk
/-! Arguments that are slices, opened to lists; and closed again. -/
section
variable {H : Type} {enc : TypeId × Value → H} {P : Program} {w : World} {base : Nat} {spare : Nat → Bool} {held : Bool}
theorem cell_addr {w : World} {a : Addr} {v : Value} (h : w.cell? a = some v) : a.spot = none ∧ a.block < w.heap.size := by
  unfold World.cell? at h
  split at h
  · rename_i c t r hk
    refine ⟨?_, (Array.getElem?_eq_some_iff.1 hk).1⟩
    cases hs : a.spot with
    | none => rfl
    | some x => rw [hs] at h; simp at h
  · cases h
theorem addr_add (b off k : Nat) : (Addr.add ⟨b, off, none⟩ k) = ⟨b, off + k, none⟩ := by
  unfold Addr.add; split
  · subst k; rfl
  · rfl
theorem sl_of_cells {α : Type} [Inhabited α] {m : Nat} {en : α → List Value} {Q : α → Prop} {w : World} {a : Addr} {len cap : Nat} (hm : 0 < m) (hl : len ≤ 9223372036854775807)
    (h : ∀ i, i < len → ∃ x : α, Q x ∧ ∀ j, j < m → w.cell? (a.add (i * m + j)) = some ((en x).getD j undef)) :
    ∃ l : List α, SlG m en w w.heap.size (.slice (some a) len cap) l ∧ ∀ i, i < l.length → Q (l.getD i default) := by
  have hc : ∃ f : Nat → α, ∀ i, i < len → Q (f i) ∧ ∀ j, j < m → w.cell? (a.add (i * m + j)) = some ((en (f i)).getD j undef) := by
    refine ⟨fun i => if hi : i < len then Classical.choose (h i hi) else default, fun i hi => ?_⟩
    simp only [dif_pos hi]
    exact Classical.choose_spec (h i hi)
  obtain ⟨f, hf⟩ := hc
  have hlen : ((List.range len).map f).length = len := by simp
  have hget : ∀ i, i < len → ((List.range len).map f).getD i default = f i := fun i hi => by
    rw [List.getD_eq_getElem?_getD, List.getElem?_map, List.getElem?_range hi]; rfl
  refine ⟨(List.range len).map f, ⟨by omega, some a, cap, by rw [hlen], fun hp => ?_⟩, fun i hi => by rw [hget i (by omega)]; exact (hf i (by omega)).1⟩
  have h0 := (hf 0 (by omega)).2 0 hm
  rw [show 0 * m + 0 = 0 by omega] at h0
  obtain ⟨b, off, sp⟩ := a
  have h0' : w.cell? ⟨b, off, sp⟩ = some ((en (f 0)).getD 0 undef) := h0
  obtain ⟨hs, hb⟩ := cell_addr h0'
  simp only at hs hb
  subst hs
  refine ⟨b, off, rfl, hb, fun i hi j hj => ?_⟩
  rw [hget i (by omega)]
  have := (hf i (by omega)).2 j hj
  rw [addr_add] at this
  rwa [Nat.add_assoc]
theorem trod_keep {t : TypeId} (hl : laidOutB P = true) (hr : P.readableRec t = true) (hrow : t < P.types.size) {W W' : World} {v : Value} {d : DataW H} {ps : List MemPlace} {sp : Nat → Bool}
    (h : DataW.Trod enc P W 0 (fun _ => true) true t v d ps) (hb : Below W.heap.size W W') (hlt : ∀ x ∈ ps, x.block < W.heap.size) (hsp : ∀ x ∈ ps, sp x.block = true) : DataW.Trod enc P W' 0 sp true t v d ps :=
  WideElems.Trod_stays hl hr hrow h (fun x hx => hb.same (hlt x hx)) hsp
theorem open_slice_fields {t e : TypeId} {fs : Array Field} {fuel : Nat} {cs : List Value} {x : DataW H × List MemPlace} (ht : P.underlying t = some (.slice e)) (he : P.underlying e = some (.struct fs))
    (hone : oneCellFields P fs = true) (hC : P.cellsOf e = fs.size) (h : DataW.trod enc P w base spare held fuel t cs = some x) :
    (cs = [.slice none 0 0]) ∨
    ∃ (a : Addr) (len cap : Nat), cs = [.slice (some a) len cap] ∧ len ≤ cap ∧ cap ≤ maxLen ∧
      ∀ i, i < len → ∀ (j : Nat) (f : Field), fs[j]? = some f → ∃ (v : Value) (y : DataW H × List MemPlace) (n : Nat), w.cell? (a.add (i * fs.size + j)) = some v ∧ DataW.trod enc P w base spare held n f.type [v] = some y := by
  rcases open_slice ht h with h0 | ⟨a, len, cap, m, n, D, Pl, hcs, hb, hl, hm, hmm, hx, hi⟩
  · exact .inl h0.1
  · refine .inr ⟨a, len, cap, hcs, hl, hm, fun i him j f hj => ?_⟩
    obtain ⟨cs', hc, ht'⟩ := hi i (by rw [hmm]; split <;> omega)
    rw [hC] at hc
    obtain ⟨ys, n', hn', hy, hlen, hyl, hf⟩ := DataW.trod_struct he ht'
    obtain ⟨_, hcl, hat⟩ := World.cells?_some hc
    obtain ⟨ho, hk⟩ := hone_of hone j f hj
    have hjl : j < fs.size := (Array.getElem?_eq_some_iff.1 hj).1
    have hcell := hat j hjl
    have hv : cs'[j]? = some (cs'[j]'(by omega)) := List.getElem?_eq_getElem (by omega)
    have h1 := hf j f hj
    rw [ho, hk] at h1
    have hone' : (cs'.drop j).take 1 = [cs'[j]'(by omega)] := by
      rw [List.drop_eq_getElem_cons (by omega)]
      rfl
    rw [hone'] at h1
    have hys : ys[j]? = some (ys[j]'(by omega)) := List.getElem?_eq_getElem (by omega)
    refine ⟨_, _, _, ?_, h1.trans hys⟩
    rw [← Go.Deep.add_add, hcell, hv]
end
theorem cells_slice (a : Option Addr) (n c : Nat) : (Value.slice a n c).cells.toList = [.slice a n c] := by simp [Value.cells]
section
variable {H : Type} {enc : TypeId × Value → H} {w : World} {base : Nat} {r : Reach}
def wfI (n : Int) : Prop := (Lit.int .i64 n).wf = true
set_option maxRecDepth 100000 in
theorem open_sl_int {v : Value} {d : DataW H} {p : List MemPlace} (hv : Value.okWide Try.prog w r base 22 v) (h : DataW.Trod enc Try.prog w 0 (fun _ => true) true 22 v d p) :
    ∃ l : List Int, SlI w w.heap.size v l ∧ ∀ i, i < l.length → wfI (l.getD i default) := by
  obtain ⟨a, len, cap, rfl⟩ := okWide_slice Try.underlying22 hv
  obtain ⟨fuel, hf⟩ := h
  rw [cells_slice] at hf
  rcases open_ints Try.underlying22 Try.underlying3 (by kernel_rfl) hf with ⟨hcs, _⟩ | ⟨a', len', cap', zs, hcs, _, hl, hm, hz, _, hcell, hwf⟩
  · obtain ⟨rfl, rfl, rfl⟩ : a = none ∧ len = 0 ∧ cap = 0 := by simpa using hcs
    exact ⟨[], SlG.nil_ _ _, fun i hi => absurd hi (by simp)⟩
  · obtain ⟨rfl, rfl, rfl⟩ : a = some a' ∧ len = len' ∧ cap = cap' := by simpa using hcs
    simp only [if_true] at hz
    refine sl_of_cells (m := 1) (en := encI) (Q := wfI) (by omega) (by unfold maxLen at hm; omega) (fun i hi => ⟨zs.getD i 0, ?_, fun j hj => ?_⟩)
    · refine hwf _ ?_
      rw [List.getD_eq_getElem?_getD, List.getElem?_eq_getElem (by omega)]
      exact List.getElem_mem _
    · obtain rfl : j = 0 := by omega
      rw [Nat.mul_one, Nat.add_zero]
      exact hcell i (by omega)
end
end Go.Proofs.Ytlbnbginippjfaa
