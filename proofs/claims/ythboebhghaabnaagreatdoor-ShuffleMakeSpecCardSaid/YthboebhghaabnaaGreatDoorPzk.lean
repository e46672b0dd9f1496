import Derived.Test.YthboebhghaabnaaGreatDoorChecked
import Derived.OpenShut
import Derived.ChangeSlices
import Derived.Deep.Slices
import Derived.Deep.Fields
import Derived.ChangeSame
import Derived.Carry
import Derived.ChangeMaps5
import Derived.Below
import Derived.Test.YthboebhghaabnaaGreatDoorRows
import Derived.LaidMore
import Derived.Stop.Joined
import Derived.ProofKit
import Derived.Deep.QuietTactic
import Derived.BigQuiet
import Derived.Deep.Cut
import Derived.Great.Walk
import Derived.Test.YthboebhghaabnaaGreatDoorPzj
namespace Go.Proofs.YthboebhghaabnaaGreatDoor
open Go.RowKit Go.WideShapes Go.ChangeShapes Go.Deep Fk
/-! Arguments that are slices, opened to lists; and closed again. -/
section
variable {H : Type} {enc : TypeId × Value → H} {P : Program} {w : World} {base : Nat} {spare : Nat → Bool} {held : Bool}
theorem cell_addr {w : World} {a : Addr} {v : Value} (h : w.cell? a = some v) : a.spot = none ∧ a.block < w.heap.size := by
  unfold World.cell? at h
  split at h
  · rename_i c t r hk
    refine ⟨?_, (Array.getElem?_eq_some_iff.1 hk).1⟩
    cases hs : a.spot with
    | none => rfl
    | some x => rw [hs] at h; simp at h
  · cases h
theorem addr_add (b off k : Nat) : (Addr.add ⟨b, off, none⟩ k) = ⟨b, off + k, none⟩ := by
  unfold Addr.add; split
  · subst k; rfl
  · rfl
theorem sl_of_cells {α : Type} [Inhabited α] {m : Nat} {en : α → List Value} {Q : α → Prop} {w : World} {a : Addr} {len cap : Nat} (hm : 0 < m) (hl : len ≤ 9223372036854775807)
    (h : ∀ i, i < len → ∃ x : α, Q x ∧ ∀ j, j < m → w.cell? (a.add (i * m + j)) = some ((en x).getD j undef)) :
    ∃ l : List α, SlG m en w w.heap.size (.slice (some a) len cap) l ∧ ∀ i, i < l.length → Q (l.getD i default) := by
  have hc : ∃ f : Nat → α, ∀ i, i < len → Q (f i) ∧ ∀ j, j < m → w.cell? (a.add (i * m + j)) = some ((en (f i)).getD j undef) := by
    refine ⟨fun i => if hi : i < len then Classical.choose (h i hi) else default, fun i hi => ?_⟩
    simp only [dif_pos hi]
    exact Classical.choose_spec (h i hi)
  obtain ⟨f, hf⟩ := hc
  have hlen : ((List.range len).map f).length = len := by simp
  have hget : ∀ i, i < len → ((List.range len).map f).getD i default = f i := fun i hi => by
    rw [List.getD_eq_getElem?_getD, List.getElem?_map, List.getElem?_range hi]; rfl
  refine ⟨(List.range len).map f, ⟨by omega, some a, cap, by rw [hlen], fun hp => ?_⟩, fun i hi => by rw [hget i (by omega)]; exact (hf i (by omega)).1⟩
  have h0 := (hf 0 (by omega)).2 0 hm
  rw [show 0 * m + 0 = 0 by omega] at h0
  obtain ⟨b, off, sp⟩ := a
  have h0' : w.cell? ⟨b, off, sp⟩ = some ((en (f 0)).getD 0 undef) := h0
  obtain ⟨hs, hb⟩ := cell_addr h0'
  simp only at hs hb
  subst hs
  refine ⟨b, off, rfl, hb, fun i hi j hj => ?_⟩
  rw [hget i (by omega)]
  have := (hf i (by omega)).2 j hj
  rw [addr_add] at this
  rwa [Nat.add_assoc]
theorem trod_keep {t : TypeId} (hl : laidOutB P = true) (hr : P.readableRec t = true) (hrow : t < P.types.size) {W W' : World} {v : Value} {d : DataW H} {ps : List MemPlace} {sp : Nat → Bool}
    (h : DataW.Trod enc P W 0 (fun _ => true) true t v d ps) (hb : Below W.heap.size W W') (hlt : ∀ x ∈ ps, x.block < W.heap.size) (hsp : ∀ x ∈ ps, sp x.block = true) : DataW.Trod enc P W' 0 sp true t v d ps :=
  WideElems.Trod_stays hl hr hrow h (fun x hx => hb.same (hlt x hx)) hsp
theorem open_slice_fields {t e : TypeId} {fs : Array Field} {fuel : Nat} {cs : List Value} {x : DataW H × List MemPlace} (ht : P.underlying t = some (.slice e)) (he : P.underlying e = some (.struct fs))
    (hone : oneCellFields P fs = true) (hC : P.cellsOf e = fs.size) (h : DataW.trod enc P w base spare held fuel t cs = some x) :
    (cs = [.slice none 0 0]) ∨
    ∃ (a : Addr) (len cap : Nat), cs = [.slice (some a) len cap] ∧ len ≤ cap ∧ cap ≤ maxLen ∧
      ∀ i, i < len → ∀ (j : Nat) (f : Field), fs[j]? = some f → ∃ (v : Value) (y : DataW H × List MemPlace) (n : Nat), w.cell? (a.add (i * fs.size + j)) = some v ∧ DataW.trod enc P w base spare held n f.type [v] = some y := by
  rcases open_slice ht h with h0 | ⟨a, len, cap, m, n, D, Pl, hcs, hb, hl, hm, hmm, hx, hi⟩
  · exact .inl h0.1
  · refine .inr ⟨a, len, cap, hcs, hl, hm, fun i him j f hj => ?_⟩
    obtain ⟨cs', hc, ht'⟩ := hi i (by rw [hmm]; split <;> omega)
    rw [hC] at hc
    obtain ⟨ys, n', hn', hy, hlen, hyl, hf⟩ := DataW.trod_struct he ht'
    obtain ⟨_, hcl, hat⟩ := World.cells?_some hc
    obtain ⟨ho, hk⟩ := hone_of hone j f hj
    have hjl : j < fs.size := (Array.getElem?_eq_some_iff.1 hj).1
    have hcell := hat j hjl
    have hv : cs'[j]? = some (cs'[j]'(by omega)) := List.getElem?_eq_getElem (by omega)
    have h1 := hf j f hj
    rw [ho, hk] at h1
    have hone' : (cs'.drop j).take 1 = [cs'[j]'(by omega)] := by
      rw [List.drop_eq_getElem_cons (by omega)]
      rfl
    rw [hone'] at h1
    have hys : ys[j]? = some (ys[j]'(by omega)) := List.getElem?_eq_getElem (by omega)
    refine ⟨_, _, _, ?_, h1.trans hys⟩
    rw [← Go.Deep.add_add, hcell, hv]
end
theorem cells_slice (a : Option Addr) (n c : Nat) : (Value.slice a n c).cells.toList = [.slice a n c] := by simp [Value.cells]
section
variable {H : Type} {enc : TypeId × Value → H} {w : World} {base : Nat} {r : Reach}
def wfI (n : Int) : Prop := (Lit.int .i64 n).wf = true
set_option maxRecDepth 100000 in
theorem open_sl_int {v : Value} {d : DataW H} {p : List MemPlace} (hv : Value.okWide Tryz.prog w r base 23 v) (h : DataW.Trod enc Tryz.prog w 0 (fun _ => true) true 23 v d p) :
    ∃ l : List Int, SlI w w.heap.size v l ∧ ∀ i, i < l.length → wfI (l.getD i default) := by
  obtain ⟨a, len, cap, rfl⟩ := okWide_slice Tryz.underlying23 hv
  obtain ⟨fuel, hf⟩ := h
  rw [cells_slice] at hf
  rcases open_ints Tryz.underlying23 Tryz.underlying3 (by kernel_rfl) hf with ⟨hcs, _⟩ | ⟨a', len', cap', zs, hcs, _, hl, hm, hz, _, hcell, hwf⟩
  · obtain ⟨rfl, rfl, rfl⟩ : a = none ∧ len = 0 ∧ cap = 0 := by simpa using hcs
    exact ⟨[], SlG.nil_ _ _, fun i hi => absurd hi (by simp)⟩
  · obtain ⟨rfl, rfl, rfl⟩ : a = some a' ∧ len = len' ∧ cap = cap' := by simpa using hcs
    simp only [if_true] at hz
    refine sl_of_cells (m := 1) (en := encI) (Q := wfI) (by omega) (by unfold maxLen at hm; omega) (fun i hi => ⟨zs.getD i 0, ?_, fun j hj => ?_⟩)
    · refine hwf _ ?_
      rw [List.getD_eq_getElem?_getD, List.getElem?_eq_getElem (by omega)]
      exact List.getElem_mem _
    · obtain rfl : j = 0 := by omega
      rw [Nat.mul_one, Nat.add_zero]
      exact hcell i (by omega)
end
end Go.Proofs.YthboebhghaabnaaGreatDoor

namespace Go.Proofs.YthboebhghaabnaaGreatDoor
open Go.RowKit Go.WideShapes Go.ChangeShapes Go.ChangeMaps Go.Deep Fk Sha
/-! Bytes and strings as arguments. -/
section
variable {H : Type} {enc : TypeId × Value → H} {w : World} {base : Nat} {r : Reach}
set_option maxRecDepth 100000 in
theorem open_str {v : Value} {d : DataW H} {p : List MemPlace} (hv : Value.okWide Tryz.prog w r base 9 v) (h : DataW.Trod enc Tryz.prog w 0 (fun _ => true) true 9 v d p) :
    ∃ s : ByteArray, v = .string s ∧ s.size ≤ maxLen := by
  obtain ⟨s, rfl, _, _, h2⟩ := open_string Tryz.underlying9 hv h
  exact ⟨s, rfl, h2⟩
set_option maxRecDepth 100000 in
theorem open_sl_b {v : Value} {d : DataW H} {p : List MemPlace} (hv : Value.okWide Tryz.prog w r base 102 v) (h : DataW.Trod enc Tryz.prog w 0 (fun _ => true) true 102 v d p) :
    ∃ l : List B, SlB w w.heap.size v l ∧ capB v := by
  obtain ⟨a, len, cap, rfl⟩ := okWide_slice Tryz.underlying102 hv
  obtain ⟨fuel, hf⟩ := h
  rw [cells_slice] at hf
  rcases open_ints Tryz.underlying102 Tryz.underlying5 (by kernel_rfl) hf with ⟨hcs, _⟩ | ⟨a', len', cap', zs, hcs, _, hl, hm, hz, _, hcell, hwf⟩
  · obtain ⟨rfl, rfl, rfl⟩ : a = none ∧ len = 0 ∧ cap = 0 := by simpa using hcs
    exact ⟨[], SlG.nil_ _ _, none, 0, 0, rfl, Nat.le_refl _, by omega, fun _ => rfl⟩
  · obtain ⟨rfl, rfl, rfl⟩ : a = some a' ∧ len = len' ∧ cap = cap' := by simpa using hcs
    simp only [if_true] at hz
    unfold maxLen at hm
    obtain ⟨l, h1, _⟩ := sl_of_cells (m := 1) (en := encB) (a := a') (len := len) (cap := cap) (w := w) (Q := fun _ => True) (by omega) (by omega) (fun i hi => ⟨BitVec.ofNat 8 (zs.getD i 0).toNat, trivial, fun j hj => by
      obtain rfl : j = 0 := by omega
      rw [Nat.mul_one, Nat.add_zero, hcell i (by omega)]
      have hw := hwf (zs.getD i 0) (by
        rw [List.getD_eq_getElem?_getD, List.getElem?_eq_getElem (by omega)]
        exact List.getElem_mem _)
      show some _ = some (bv _)
      unfold bv bn
      have hb : 0 ≤ zs.getD i 0 ∧ zs.getD i 0 ≤ 255 := bounds_u8 hw
      rw [BitVec.toNat_ofNat, Nat.mod_eq_of_lt (by omega), Int.toNat_of_nonneg hb.1]⟩)
    exact ⟨l, h1, some a', len, cap, rfl, hl, by omega, fun h => by cases h⟩
end
end Go.Proofs.YthboebhghaabnaaGreatDoor

namespace Go.Proofs.YthboebhghaabnaaGreatDoor
open Go.RowKit Go.WideShapes Go.ChangeShapes Fk
section
variable {H : Type} {enc : TypeId × Value → H} {P : Program} {w : World} {base base' : Nat} {r : Reach} {sp : Nat → Bool} {held : Bool}
theorem okWide_array {t e : TypeId} {n : Nat} {v : Value} (ht : P.underlying t = some (.array n e)) (h : Value.okWide P w r base t v) : ∃ cs, v = .agg cs ∧ cs.size = P.cellsOf t := by
  simp only [Value.okWide, ht] at h
  obtain ⟨cs, h1, h2, _⟩ := h
  exact ⟨cs, h1, h2⟩
theorem three_of {cs : Array Value} (h : cs.size = 3) : ∃ a b c, cs = #[a, b, c] := by
  obtain ⟨l⟩ := cs
  match l, h with
  | [a, b, c], _ => exact ⟨a, b, c, rfl⟩
theorem six_of {cs : Array Value} (h : cs.size = 6) : ∃ a b c d e f, cs = #[a, b, c, d, e, f] := by
  obtain ⟨l⟩ := cs
  match l, h with
  | [a, b, c, d, e, f], _ => exact ⟨a, b, c, d, e, f, rfl⟩
theorem some_at {α : Type} {l : List α} {n i : Nat} (h : l.length = n) (hi : i < n) : ∃ x, l[i]? = some x := ⟨l[i]'(by omega), List.getElem?_eq_getElem (by omega)⟩
/-- an array of three integers -/
theorem open_tri {t e : TypeId} {k : IntKind} {v : Value} {d : DataW H} {p : List MemPlace} (ht : P.underlying t = some (.array 3 e)) (he : P.underlying e = some (.int k)) (hc : P.cellsOf t = 3) (hce : P.cellsOf e = 1)
    (hv : Value.okWide P w r base t v) (h : DataW.Trod enc P w base' sp held t v d p) :
    ∃ a b c : Int, v = .agg #[.int k a, .int k b, .int k c] ∧ (Lit.int k a).wf = true ∧ (Lit.int k b).wf = true ∧ (Lit.int k c).wf = true := by
  obtain ⟨cs, rfl, hs⟩ := okWide_array ht hv
  obtain ⟨x0, x1, x2, rfl⟩ := three_of (hs.trans hc)
  obtain ⟨fuel, hf⟩ := h
  obtain ⟨xs, m, _, _, _, hl, hi⟩ := DataW.trod_array ht hf
  simp only [hce, Nat.mul_one] at hi
  obtain ⟨y0, g0⟩ := some_at hl (show 0 < 3 by omega)
  obtain ⟨y1, g1⟩ := some_at hl (show 1 < 3 by omega)
  obtain ⟨y2, g2⟩ := some_at hl (show 2 < 3 by omega)
  obtain ⟨a, e0, _, w0⟩ := DataW.trod_int he ((hi 0 (by omega)).trans g0)
  obtain ⟨b, e1, _, w1⟩ := DataW.trod_int he ((hi 1 (by omega)).trans g1)
  obtain ⟨c, e2, _, w2⟩ := DataW.trod_int he ((hi 2 (by omega)).trans g2)
  simp [Value.cells] at e0 e1 e2
  subst e0 e1 e2
  exact ⟨a, b, c, rfl, w0, w1, w2⟩
/-- an array of three structs of two integers -/
theorem open_six {t e i : TypeId} {fs : Array Field} {v : Value} {d : DataW H} {p : List MemPlace} (ht : P.underlying t = some (.array 3 e)) (he : P.underlying e = some (.struct fs)) (hc : P.cellsOf t = 6) (hce : P.cellsOf e = 2)
    (hi : P.underlying i = some (.int .i64)) (hci : P.cellsOf i = 1) {f0 f1 : Field} (hf0 : fs[0]? = some f0) (hf1 : fs[1]? = some f1) (h00 : f0.offset = 0) (h01 : f1.offset = 1) (ht0 : f0.type = i) (ht1 : f1.type = i)
    (hv : Value.okWide P w r base t v) (h : DataW.Trod enc P w base' sp held t v d p) :
    ∃ s : Se, v = s.val := by
  obtain ⟨cs, rfl, hs⟩ := okWide_array ht hv
  obtain ⟨x0, x1, x2, x3, x4, x5, rfl⟩ := six_of (hs.trans hc)
  obtain ⟨fuel, hf⟩ := h
  obtain ⟨xs, m, _, _, _, hl, hel⟩ := DataW.trod_array ht hf
  simp only [hce] at hel
  have key : ∀ k, k < 3 → ∃ a b : Int, (([x0, x1, x2, x3, x4, x5] : List Value).drop (k * 2)).take 2 = [.int .i64 a, .int .i64 b] := by
    intro k hk
    obtain ⟨y, g⟩ := some_at hl hk
    have h1 := (hel k hk).trans g
    obtain ⟨ys, n, _, _, hlen, hyl, hfs⟩ := DataW.trod_struct he h1
    have hfz : 1 < fs.size := (Array.getElem?_eq_some_iff.1 hf1).1
    obtain ⟨z0, g0⟩ := some_at hyl (show 0 < fs.size by omega)
    obtain ⟨z1, g1⟩ := some_at hyl hfz
    have a0 := (hfs 0 f0 hf0).trans g0
    have a1 := (hfs 1 f1 hf1).trans g1
    rw [h00, ht0, hci] at a0
    rw [h01, ht1, hci] at a1
    obtain ⟨a, e0, _, _⟩ := DataW.trod_int hi a0
    obtain ⟨b, e1, _, _⟩ := DataW.trod_int hi a1
    refine ⟨a, b, ?_⟩
    simp only [Value.cells] at e0 e1
    rcases (show k = 0 ∨ k = 1 ∨ k = 2 by omega) with rfl | rfl | rfl <;> (simp at e0 e1 ⊢; exact ⟨e0, e1⟩)
  obtain ⟨a0, b0, k0⟩ := key 0 (by omega)
  obtain ⟨a1, b1, k1⟩ := key 1 (by omega)
  obtain ⟨a2, b2, k2⟩ := key 2 (by omega)
  simp at k0 k1 k2
  obtain ⟨rfl, rfl⟩ := k0
  obtain ⟨rfl, rfl⟩ := k1
  obtain ⟨rfl, rfl⟩ := k2
  exact ⟨⟨⟨a0, b0⟩, ⟨a1, b1⟩, ⟨a2, b2⟩⟩, rfl⟩
end
section
variable {H : Type} {enc : TypeId × Value → H} {w : World} {base : Nat} {r : Reach}
def wfT (t : Tr) : Prop := ((Lit.int .i64 t.p).wf = true ∧ (Lit.int .i64 t.q).wf = true ∧ (Lit.int .i64 t.r).wf = true)
set_option maxRecDepth 100000 in
theorem open_three {v : Value} {d : DataW H} {p : List MemPlace} (hv : Value.okWide Tryz.prog w r base 56 v) (h : DataW.Trod enc Tryz.prog w 0 (fun _ => true) true 56 v d p) : ∃ t : Tr, v = t.val ∧ wfT t := by
  obtain ⟨a, b, c, rfl, h1, h2, h3⟩ := open_tri Tryz.underlying56 Tryz.underlying3 (by kernel_rfl) (by kernel_rfl) hv h
  exact ⟨⟨a, b, c⟩, rfl, h1, h2, h3⟩
set_option maxRecDepth 100000 in
theorem open_sealed {v : Value} {d : DataW H} {p : List MemPlace} (hv : Value.okWide Tryz.prog w r base 45 v) (h : DataW.Trod enc Tryz.prog w 0 (fun _ => true) true 45 v d p) : ∃ s : Se, v = s.val ∧ True := by
  obtain ⟨s, hs⟩ := open_six Tryz.underlying45 Tryz.underlying43 (by kernel_rfl) (by kernel_rfl) Tryz.underlying3 (by kernel_rfl) rfl rfl rfl rfl rfl rfl hv h
  exact ⟨s, hs, trivial⟩
end
end Go.Proofs.YthboebhghaabnaaGreatDoor

namespace Go.Proofs.YthboebhghaabnaaGreatDoor
open Go.RowKit Go.WideShapes Go.ChangeShapes Go.Deep Fk
/-! Six cells that are read as three structs of two integers. -/
section
variable {H : Type} {enc : TypeId × Value → H} {P : Program} {w : World} {base base' : Nat} {r : Reach} {sp : Nat → Bool} {held : Bool}
theorem six' {k : Nat} (h : k < 6) : k = 0 ∨ k = 1 ∨ k = 2 ∨ k = 3 ∨ k = 4 ∨ k = 5 := by omega
theorem two_of {cs : List Value} (h : cs.length = 2) : ∃ a b, cs = [a, b] := by
  match cs, h with
  | [a, b], _ => exact ⟨a, b, rfl⟩
/-- six cells that are read as three structs of two integers -/
theorem six_ints {t e i : TypeId} {fs : Array Field} {cs : List Value} {fuel : Nat} {x : DataW H × List MemPlace} (hs : cs.length = 6) (ht : P.underlying t = some (.array 3 e)) (he : P.underlying e = some (.struct fs)) (hce : P.cellsOf e = 2)
    (hi : P.underlying i = some (.int .i64)) (hci : P.cellsOf i = 1) {f0 f1 : Field} (hf0 : fs[0]? = some f0) (hf1 : fs[1]? = some f1) (h00 : f0.offset = 0) (h01 : f1.offset = 1) (ht0 : f0.type = i) (ht1 : f1.type = i)
    (hf : DataW.trod enc P w base' sp held fuel t cs = some x) :
    ∃ a0 b0 a1 b1 a2 b2 : Int, cs = [.int .i64 a0, .int .i64 b0, .int .i64 a1, .int .i64 b1, .int .i64 a2, .int .i64 b2] := by
  obtain ⟨x0, x1, x2, x3, x4, x5, hx⟩ := six_of (cs := cs.toArray) (by simpa using hs)
  obtain rfl : cs = [x0, x1, x2, x3, x4, x5] := by
    have := congrArg Array.toList hx
    simpa using this
  clear hx
  obtain ⟨xs, m, _, _, _, hl, hel⟩ := DataW.trod_array ht hf
  simp only [hce] at hel
  have key : ∀ k, k < 3 → ∃ a b : Int, (([x0, x1, x2, x3, x4, x5] : List Value).drop (k * 2)).take 2 = [.int .i64 a, .int .i64 b] := by
    intro k hk
    obtain ⟨y, g⟩ := some_at hl hk
    have h1 := (hel k hk).trans g
    obtain ⟨ys, n, _, _, hlen, hyl, hfs⟩ := DataW.trod_struct he h1
    have hfz : 1 < fs.size := (Array.getElem?_eq_some_iff.1 hf1).1
    obtain ⟨z0, g0⟩ := some_at hyl (show 0 < fs.size by omega)
    obtain ⟨z1, g1⟩ := some_at hyl hfz
    have a0 := (hfs 0 f0 hf0).trans g0
    have a1 := (hfs 1 f1 hf1).trans g1
    rw [h00, ht0, hci] at a0
    rw [h01, ht1, hci] at a1
    obtain ⟨a, e0, _, _⟩ := DataW.trod_int hi a0
    obtain ⟨b, e1, _, _⟩ := DataW.trod_int hi a1
    refine ⟨a, b, ?_⟩
    rcases (show k = 0 ∨ k = 1 ∨ k = 2 by omega) with rfl | rfl | rfl <;> (simp at e0 e1 ⊢; exact ⟨e0, e1⟩)
  obtain ⟨a0, b0, k0⟩ := key 0 (by omega)
  obtain ⟨a1, b1, k1⟩ := key 1 (by omega)
  obtain ⟨a2, b2, k2⟩ := key 2 (by omega)
  simp at k0 k1 k2
  obtain ⟨rfl, rfl⟩ := k0
  obtain ⟨rfl, rfl⟩ := k1
  obtain ⟨rfl, rfl⟩ := k2
  exact ⟨a0, b0, a1, b1, a2, b2, rfl⟩
theorem open_slice_six {s t e i : TypeId} {fs : Array Field} {cs : List Value} {fuel : Nat} {x : DataW H × List MemPlace} (hsl : P.underlying s = some (.slice t)) (ht : P.underlying t = some (.array 3 e)) (he : P.underlying e = some (.struct fs)) (hct : P.cellsOf t = 6) (hce : P.cellsOf e = 2)
    (hi : P.underlying i = some (.int .i64)) (hci : P.cellsOf i = 1) {f0 f1 : Field} (hf0 : fs[0]? = some f0) (hf1 : fs[1]? = some f1) (h00 : f0.offset = 0) (h01 : f1.offset = 1) (ht0 : f0.type = i) (ht1 : f1.type = i)
    (h : DataW.trod enc P w base sp true fuel s cs = some x) :
    (cs = [.slice none 0 0]) ∨
    ∃ (a : Addr) (len cap : Nat), cs = [.slice (some a) len cap] ∧ len ≤ cap ∧ cap ≤ maxLen ∧
      ∀ i, i < len → ∃ a0 b0 a1 b1 a2 b2 : Int, ∀ j, j < 6 → w.cell? (a.add (i * 6 + j)) = some (([.int .i64 a0, .int .i64 b0, .int .i64 a1, .int .i64 b1, .int .i64 a2, .int .i64 b2] : List Value).getD j undef) := by
  rcases open_slice hsl h with h0 | ⟨a, len, cap, m, n, D, Pl, hcs, hb, hl, hm, hmm, hx, hi'⟩
  · exact .inl h0.1
  · refine .inr ⟨a, len, cap, hcs, hl, hm, fun k hk => ?_⟩
    obtain ⟨cs', hc, ht'⟩ := hi' k (by rw [hmm]; split <;> omega)
    rw [hct] at hc
    obtain ⟨_, hcl, hat⟩ := World.cells?_some hc
    obtain ⟨a0, b0, a1, b1, a2, b2, rfl⟩ := six_ints hcl ht he hce hi hci hf0 hf1 h00 h01 ht0 ht1 ht'
    refine ⟨a0, b0, a1, b1, a2, b2, fun j hj => ?_⟩
    rw [← Go.Deep.add_add, hat j hj]
    rcases six' hj with rfl | rfl | rfl | rfl | rfl | rfl <;> rfl
end
end Go.Proofs.YthboebhghaabnaaGreatDoor

set_option linter.unusedSimpArgs false
set_option linter.unusedVariables false
namespace Go.Proofs.YthboebhghaabnaaGreatDoor
open Go.RowKit Go.WideShapes Go.ChangeShapes Go.ChangeMaps Go.Deep Fk Sha
/-! Turns, mixes and openings as arguments. -/
section
variable {H : Type} {enc : TypeId × Value → H} {P : Program} {w : World} {base base' : Nat} {r : Reach} {sp : Nat → Bool} {held : Bool}
theorem take_one {cs : List Value} {i : Nat} (h : i < cs.length) : (cs.drop i).take 1 = [cs[i]] := by
  rw [List.drop_eq_getElem_cons h]; rfl
theorem bytes_of {t e : TypeId} {n : Nat} {cs : List Value} {fuel : Nat} {x : DataW H × List MemPlace} (hs : cs.length = n) (ht : P.underlying t = some (.array n e)) (he : P.underlying e = some (.int .u8)) (hce : P.cellsOf e = 1)
    (hf : DataW.trod enc P w base' sp held fuel t cs = some x) : ∃ d : List B, d.length = n ∧ cs = d.map bv := by
  obtain ⟨xs, m, _, _, _, hl, hi⟩ := DataW.trod_array ht hf
  simp only [hce, Nat.mul_one] at hi
  have key : ∀ (i : Nat) (hi : i < cs.length), ∃ b : B, cs[i] = bv b := fun i hil => by
    obtain ⟨y, g⟩ := some_at hl (show i < n by omega)
    obtain ⟨z, e0, _, wz⟩ := DataW.trod_int he ((hi i (by omega)).trans g)
    rw [take_one hil] at e0
    injection e0 with e0
    have hb : 0 ≤ z ∧ z ≤ 255 := bounds_u8 wz
    refine ⟨BitVec.ofNat 8 z.toNat, ?_⟩
    rw [e0]
    unfold bv bn
    rw [BitVec.toNat_ofNat, Nat.mod_eq_of_lt (by omega), Int.toNat_of_nonneg hb.1]
  refine ⟨(List.range n).map fun i => if hi : i < cs.length then Classical.choose (key i hi) else 0, by simp, ?_⟩
  refine List.ext_getElem (by simp [hs]) fun i h1 h2 => ?_
  have := Classical.choose_spec (key i h1)
  simp only [List.getElem_map, List.getElem_range, dif_pos h1]
  exact this
theorem three_ints {t e : TypeId} {cs : List Value} {fuel : Nat} {x : DataW H × List MemPlace} (hs : cs.length = 3) (ht : P.underlying t = some (.array 3 e)) (he : P.underlying e = some (.int .i64)) (hce : P.cellsOf e = 1)
    (hf : DataW.trod enc P w base' sp held fuel t cs = some x) : ∃ a b c : Int, cs = [.int .i64 a, .int .i64 b, .int .i64 c] ∧ wfI a ∧ wfI b ∧ wfI c := by
  obtain ⟨xs, m2, _, _, _, hxl, hel⟩ := DataW.trod_array ht hf
  simp only [hce, Nat.mul_one] at hel
  match cs, hs, hel with
  | [y0, y1, y2], _, hel =>
    obtain ⟨z0, g0⟩ := some_at hxl (show 0 < 3 by omega)
    obtain ⟨z1, g1⟩ := some_at hxl (show 1 < 3 by omega)
    obtain ⟨z2, g2⟩ := some_at hxl (show 2 < 3 by omega)
    obtain ⟨x0, e0, _, w0⟩ := DataW.trod_int he ((hel 0 (by omega)).trans g0)
    obtain ⟨x1, e1, _, w1⟩ := DataW.trod_int he ((hel 1 (by omega)).trans g1)
    obtain ⟨x2, e2, _, w2⟩ := DataW.trod_int he ((hel 2 (by omega)).trans g2)
    simp at e0 e1 e2
    subst e0 e1 e2
    exact ⟨x0, x1, x2, rfl, w0, w1, w2⟩
/-- a slice whose elements' cells are read as values of a type -/
theorem open_slG {α : Type} [Inhabited α] {m : Nat} {en : α → List Value} {Q : α → Prop} {s t : TypeId} {cs : List Value} {fuel : Nat} {x : DataW H × List MemPlace} (hm : 0 < m) (hs : P.underlying s = some (.slice t)) (hct : P.cellsOf t = m)
    (hel : ∀ (n : Nat) (cs : List Value) (x : DataW H × List MemPlace), cs.length = m → DataW.trod enc P w base sp true n t cs = some x → ∃ a : α, Q a ∧ cs = en a)
    (h : DataW.trod enc P w base sp true fuel s cs = some x) :
    ∃ (l : List α) (A : Option Addr) (c : Nat), cs = [.slice A l.length c] ∧ SlG m en w w.heap.size (.slice A l.length c) l ∧ l.length ≤ c ∧ c ≤ maxLen ∧ ∀ i, i < l.length → Q (l.getD i default) := by
  rcases open_slice hs h with h0 | ⟨a, len, cap, m2, n, D, Pl, hcs, hb, hl, hmx, hmm, hx, hi⟩
  · exact ⟨[], none, 0, h0.1, SlG.nil_ _ _, Nat.le_refl _, by unfold maxLen; omega, fun i hi => absurd hi (by simp)⟩
  · have hlm : len ≤ 9223372036854775807 := by unfold maxLen at hmx; omega
    obtain ⟨l, h1, h2⟩ := sl_of_cells (m := m) (en := en) (a := a) (len := len) (cap := cap) (w := w) (Q := Q) hm hlm (fun i hil => by
      obtain ⟨cs', hc, ht'⟩ := hi i (by rw [hmm]; split <;> omega)
      rw [hct] at hc
      obtain ⟨_, hcl, hat⟩ := World.cells?_some hc
      obtain ⟨y, hq, rfl⟩ := hel _ _ _ hcl ht'
      refine ⟨y, hq, fun j hj => ?_⟩
      rw [← Go.Deep.add_add, hat j hj, List.getElem?_eq_getElem (by omega), List.getD_eq_getElem?_getD, List.getElem?_eq_getElem (by omega)]
      rfl)
    obtain rfl : len = l.length := by obtain ⟨_, _, _, hv, _⟩ := h1; injection hv
    exact ⟨l, some a, cap, hcs, h1, hl, hmx, h2⟩
end
section
variable {H : Type} {enc : TypeId × Value → H} {w : World} {base : Nat} {r : Reach}
def wfR (t : Tr) : Prop := wfI t.p ∧ wfI t.q ∧ wfI t.r
set_option maxRecDepth 100000 in
theorem el_int {n : Nat} {cs : List Value} {x : DataW H × List MemPlace} (hc : cs.length = 1) (h : DataW.trod enc Tryz.prog w 0 (fun _ => true) true n 3 cs = some x) : ∃ a : Int, wfI a ∧ cs = encI a := by
  obtain ⟨z, e0, _, wz⟩ := DataW.trod_int Tryz.underlying3 h
  exact ⟨z, wz, e0⟩
theorem el_tr {n : Nat} {cs : List Value} {x : DataW H × List MemPlace} (hc : cs.length = 3) (h : DataW.trod enc Tryz.prog w 0 (fun _ => true) true n 56 cs = some x) : ∃ a : Tr, wfR a ∧ cs = Tr.cells a := by
  obtain ⟨a, b, c, rfl, h1, h2, h3⟩ := three_ints hc Tryz.underlying56 Tryz.underlying3 (by kernel_rfl) h
  exact ⟨⟨a, b, c⟩, ⟨h1, h2, h3⟩, rfl⟩
theorem el_dg {n : Nat} {cs : List Value} {x : DataW H × List MemPlace} (hc : cs.length = 32) (h : DataW.trod enc Tryz.prog w 0 (fun _ => true) true n 58 cs = some x) : ∃ a : List B, a.length = 32 ∧ cs = encD a := by
  obtain ⟨d, h1, h2⟩ := bytes_of hc Tryz.underlying58 Tryz.underlying5 (by kernel_rfl) h
  exact ⟨d, h1, h2⟩
theorem el_dg2 {n : Nat} {cs : List Value} {x : DataW H × List MemPlace} (hc : cs.length = 64) (h : DataW.trod enc Tryz.prog w 0 (fun _ => true) true n 98 cs = some x) : ∃ a : List B, a.length = 64 ∧ cs = encD a := by
  obtain ⟨xs, m2, _, _, _, hxl, hel⟩ := DataW.trod_array Tryz.underlying98 h
  have hd : Tryz.prog.cellsOf 58 = 32 := by kernel_rfl
  rw [hd] at hel
  obtain ⟨z0, g0⟩ := some_at hxl (show 0 < 2 by omega)
  obtain ⟨z1, g1⟩ := some_at hxl (show 1 < 2 by omega)
  obtain ⟨d0, l0, e0⟩ := el_dg (by simp; omega) ((hel 0 (by omega)).trans g0)
  obtain ⟨d1, l1, e1⟩ := el_dg (by simp; omega) ((hel 1 (by omega)).trans g1)
  refine ⟨d0 ++ d1, by simp [l0, l1], ?_⟩
  unfold encD at *
  rw [List.map_append, ← e0, ← e1]
  simp only [Nat.zero_mul, List.drop_zero, Nat.one_mul]
  rw [List.take_of_length_le (l := cs.drop 32) (by simp; omega), List.take_append_drop]
theorem el_se {n : Nat} {cs : List Value} {x : DataW H × List MemPlace} (hc : cs.length = 6) (h : DataW.trod enc Tryz.prog w 0 (fun _ => true) true n 45 cs = some x) : ∃ a : Se, True ∧ cs = encS a := by
  obtain ⟨a0, b0, a1, b1, a2, b2, rfl⟩ := six_ints hc Tryz.underlying45 Tryz.underlying43 (by kernel_rfl) Tryz.underlying3 (by kernel_rfl) rfl rfl rfl rfl rfl rfl h
  exact ⟨⟨⟨a0, b0⟩, ⟨a1, b1⟩, ⟨a2, b2⟩⟩, trivial, rfl⟩
theorem el_og {n : Nat} {cs : List Value} {x : DataW H × List MemPlace} (hc : cs.length = 36) (h : DataW.trod enc Tryz.prog w 0 (fun _ => true) true n 60 cs = some x) : ∃ o : Og, (wfI o.a ∧ wfR o.r ∧ o.s.length = 32) ∧ cs = Og.cells o := by
  obtain ⟨ys, n, _, _, hlen, hyl, hfs⟩ := DataW.trod_struct Tryz.underlying60 h
  obtain ⟨z0, g0⟩ := some_at hyl (show 0 < _ by decide)
  obtain ⟨z1, g1⟩ := some_at hyl (show 1 < _ by decide)
  obtain ⟨z2, g2⟩ := some_at hyl (show 2 < _ by decide)
  have a0 := (hfs 0 _ rfl).trans g0
  have a1 := (hfs 1 _ rfl).trans g1
  have a2 := (hfs 2 _ rfl).trans g2
  have c0 : Tryz.prog.cellsOf 3 = 1 := by kernel_rfl
  have c1 : Tryz.prog.cellsOf 56 = 3 := by kernel_rfl
  have c2 : Tryz.prog.cellsOf 58 = 32 := by kernel_rfl
  replace a0 : DataW.trod enc Tryz.prog w 0 (fun _ => true) true n 3 ((cs.drop 0).take (Tryz.prog.cellsOf 3)) = some z0 := a0
  replace a1 : DataW.trod enc Tryz.prog w 0 (fun _ => true) true n 56 ((cs.drop 1).take (Tryz.prog.cellsOf 56)) = some z1 := a1
  replace a2 : DataW.trod enc Tryz.prog w 0 (fun _ => true) true n 58 ((cs.drop 4).take (Tryz.prog.cellsOf 58)) = some z2 := a2
  rw [c0] at a0
  rw [c1] at a1
  rw [c2] at a2
  obtain ⟨a, wa, e0⟩ := el_int (by simp; omega) a0
  obtain ⟨b, wb, e1⟩ := el_tr (by simp; omega) a1
  obtain ⟨d, wd, e2⟩ := el_dg (by simp; omega) a2
  refine ⟨⟨a, b, d⟩, ⟨wa, wb, wd⟩, ?_⟩
  unfold Og.cells
  unfold encD at e2
  unfold encI at e0
  unfold Tr.cells at e1
  simp only [List.drop_zero] at e0
  rw [List.take_of_length_le (by simp; omega)] at e2
  rw [← e2]
  have h4 : ∃ y0 y1 y2 y3 ys, cs = y0 :: y1 :: y2 :: y3 :: ys := by
    have hc4 : 4 ≤ cs.length := by rw [hc]; decide
    clear hc a0 a1 a2 e0 e1 e2 h hyl hfs hlen
    match cs, hc4 with
    | y0 :: y1 :: y2 :: y3 :: ys, _ => exact ⟨y0, y1, y2, y3, ys, rfl⟩
  obtain ⟨y0, y1, y2, y3, ys', rfl⟩ := h4
  clear hc a0 a1 a2 e2 h hyl hfs hlen
  simp at e0 e1
  obtain ⟨h1, h2, h3⟩ := e1
  rw [e0, h1, h2, h3]
  rfl
structure wfTn (t : Tn) : Prop where
  l : ∀ i, i < t.l.length → wfI (t.l.getD i default)
  r : ∀ i, i < t.r.length → wfI (t.r.getD i default)
  rl : ∀ i, i < t.rl.length → wfR (t.rl.getD i default)
  rr : ∀ i, i < t.rr.length → wfR (t.rr.getD i default)
  s : ∀ i, i < t.s.length → (t.s.getD i default).length = 64
set_option maxRecDepth 100000 in
theorem open_turn {v : Value} {d : DataW H} {p : List MemPlace} (hv : Value.okWide Tryz.prog w r base 27 v) (h : DataW.Trod enc Tryz.prog w 0 (fun _ => true) true 27 v d p) :
    ∃ (t : Tn) (x : TnA), v = .agg (x.cells t).toArray ∧ TnS w w.heap.size x t ∧ wfTn t := by
  obtain ⟨fuel, hf⟩ := h
  obtain ⟨ys, n, _, _, hlen, hyl, hfs⟩ := DataW.trod_struct Tryz.underlying27 hf
  obtain ⟨z0, g0⟩ := some_at hyl (show 0 < _ by decide)
  obtain ⟨z1, g1⟩ := some_at hyl (show 1 < _ by decide)
  obtain ⟨z2, g2⟩ := some_at hyl (show 2 < _ by decide)
  obtain ⟨z3, g3⟩ := some_at hyl (show 3 < _ by decide)
  obtain ⟨z4, g4⟩ := some_at hyl (show 4 < _ by decide)
  have a0 := (hfs 0 _ rfl).trans g0
  have a1 := (hfs 1 _ rfl).trans g1
  have a2 := (hfs 2 _ rfl).trans g2
  have a3 := (hfs 3 _ rfl).trans g3
  have a4 := (hfs 4 _ rfl).trans g4
  have hag : ∃ cs, v = .agg cs ∧ cs.size = 5 := by
    simp only [Value.okWide, Tryz.underlying27] at hv
    obtain ⟨cs, h1, h2, _⟩ := hv
    exact ⟨cs, h1, h2.trans (by kernel_rfl)⟩
  obtain ⟨⟨cs⟩, rfl, hs⟩ := hag
  have hs5 : cs.length = 5 := by simpa using hs
  obtain ⟨l0, A0, c0, e0, s0, _, _, q0⟩ := open_slG (m := 1) (en := encI) (Q := wfI) (by omega) Tryz.underlying23 (by kernel_rfl) (fun n cs x h1 h2 => el_int h1 h2) a0
  obtain ⟨l1, A1, c1, e1, s1, _, _, q1⟩ := open_slG (m := 1) (en := encI) (Q := wfI) (by omega) Tryz.underlying23 (by kernel_rfl) (fun n cs x h1 h2 => el_int h1 h2) a1
  obtain ⟨l2, A2, c2, e2, s2, _, _, q2⟩ := open_slG (m := 3) (en := Tr.cells) (Q := wfR) (by omega) Tryz.underlying24 (by kernel_rfl) (fun n cs x h1 h2 => el_tr h1 h2) a2
  obtain ⟨l3, A3, c3, e3, s3, _, _, q3⟩ := open_slG (m := 3) (en := Tr.cells) (Q := wfR) (by omega) Tryz.underlying24 (by kernel_rfl) (fun n cs x h1 h2 => el_tr h1 h2) a3
  obtain ⟨l4, A4, c4, e4, s4, _, _, q4⟩ := open_slG (m := 64) (en := encD) (Q := fun d => d.length = 64) (by omega) Tryz.underlying25 (by kernel_rfl) (fun n cs x h1 h2 => el_dg2 h1 h2) a4
  have k1 : Tryz.prog.cellsOf 23 = 1 := by kernel_rfl
  have k2 : Tryz.prog.cellsOf 24 = 1 := by kernel_rfl
  have k3 : Tryz.prog.cellsOf 25 = 1 := by kernel_rfl
  refine ⟨⟨l0, l1, l2, l3, l4⟩, ⟨A0, c0, A1, c1, A2, c2, A3, c3, A4, c4⟩, ?_, ⟨s0, s1, s2, s3, s4⟩, ⟨q0, q1, q2, q3, q4⟩⟩
  match cs, hs5 with
  | [x0, x1, x2, x3, x4], _ =>
    simp [Value.cells, k1, k2, k3] at e0 e1 e2 e3 e4
    subst e0 e1 e2 e3 e4
    rfl
end
end Go.Proofs.YthboebhghaabnaaGreatDoor

set_option linter.unusedSimpArgs false
set_option linter.unusedVariables false
namespace Go.Proofs.YthboebhghaabnaaGreatDoor
open Go.RowKit Go.WideShapes Go.ChangeShapes Go.ChangeMaps Go.Deep Fk Sha
/-! Mixes and lists of openings as arguments. -/
section
variable {H : Type} {enc : TypeId × Value → H} {w : World} {base : Nat} {r : Reach}
def wfOg (o : Og) : Prop := wfI o.a ∧ wfR o.r ∧ o.s.length = 32
set_option maxRecDepth 100000 in
theorem open_mix {v : Value} {d : DataW H} {p : List MemPlace} (hv : Value.okWide Tryz.prog w r base 32 v) (h : DataW.Trod enc Tryz.prog w 0 (fun _ => true) true 32 v d p) :
    ∃ (m : Mx) (x : MxA), v = .agg (x.cells m).toArray ∧ MxS w w.heap.size x m ∧ MxOK m := by
  obtain ⟨fuel, hf⟩ := h
  obtain ⟨ys, n, _, _, hlen, hyl, hfs⟩ := DataW.trod_struct Tryz.underlying32 hf
  obtain ⟨z0, g0⟩ := some_at hyl (show 0 < _ by decide)
  obtain ⟨z1, g1⟩ := some_at hyl (show 1 < _ by decide)
  obtain ⟨z2, g2⟩ := some_at hyl (show 2 < _ by decide)
  obtain ⟨z3, g3⟩ := some_at hyl (show 3 < _ by decide)
  obtain ⟨z4, g4⟩ := some_at hyl (show 4 < _ by decide)
  have a0 := (hfs 0 _ rfl).trans g0
  have a1 := (hfs 1 _ rfl).trans g1
  have a2 := (hfs 2 _ rfl).trans g2
  have a3 := (hfs 3 _ rfl).trans g3
  have a4 := (hfs 4 _ rfl).trans g4
  have hag : ∃ cs, v = .agg cs ∧ cs.size = 5 := by
    simp only [Value.okWide, Tryz.underlying32] at hv
    obtain ⟨cs, h1, h2, _⟩ := hv
    exact ⟨cs, h1, h2.trans (by kernel_rfl)⟩
  obtain ⟨⟨cs⟩, rfl, hs⟩ := hag
  have hs5 : cs.length = 5 := by simpa using hs
  obtain ⟨l0, A0, c0, e0, s0, _, _, q0⟩ := open_slG (m := 6) (en := encS) (Q := fun _ => True) (by omega) Tryz.underlying22 (by kernel_rfl) (fun n cs x h1 h2 => el_se h1 h2) a0
  obtain ⟨l1, A1, c1, e1, s1, _, _, q1⟩ := open_slG (m := 6) (en := encS) (Q := fun _ => True) (by omega) Tryz.underlying22 (by kernel_rfl) (fun n cs x h1 h2 => el_se h1 h2) a1
  obtain ⟨l2, A2, c2, e2, s2, _, _, q2⟩ := open_slG (m := 6) (en := encS) (Q := fun _ => True) (by omega) Tryz.underlying22 (by kernel_rfl) (fun n cs x h1 h2 => el_se h1 h2) a2
  obtain ⟨l3, A3, c3, e3, s3, _, _, q3⟩ := open_slG (m := 32) (en := encD) (Q := fun d => d.length = 32) (by omega) Tryz.underlying30 (by kernel_rfl) (fun n cs x h1 h2 => el_dg h1 h2) a3
  obtain ⟨l4, A4, c4, e4, s4, _, _, q4⟩ := open_slG (m := 32) (en := encD) (Q := fun d => d.length = 32) (by omega) Tryz.underlying30 (by kernel_rfl) (fun n cs x h1 h2 => el_dg h1 h2) a4
  have k1 : Tryz.prog.cellsOf 22 = 1 := by kernel_rfl
  have k2 : Tryz.prog.cellsOf 30 = 1 := by kernel_rfl
  refine ⟨⟨l0, l1, l2, l3, l4⟩, ⟨A0, c0, A1, c1, A2, c2, A3, c3, A4, c4⟩, ?_, ⟨s0, s1, s2, s3, s4⟩, ⟨q3, q4⟩⟩
  match cs, hs5 with
  | [x0, x1, x2, x3, x4], _ =>
    simp [Value.cells, k1, k2] at e0 e1 e2 e3 e4
    subst e0 e1 e2 e3 e4
    rfl
set_option maxRecDepth 100000 in
/-- a list of openings as an argument -/
theorem open_sl_og {v : Value} {d : DataW H} {p : List MemPlace} (hv : Value.okWide Tryz.prog w r base 38 v) (h : DataW.Trod enc Tryz.prog w 0 (fun _ => true) true 38 v d p) :
    ∃ l : List Og, SlG 36 Og.cells w w.heap.size v l ∧ ∀ i, i < l.length → wfOg (l.getD i default) := by
  obtain ⟨a, len, cap, rfl⟩ := okWide_slice Tryz.underlying38 hv
  obtain ⟨fuel, hf⟩ := h
  rw [cells_slice] at hf
  obtain ⟨l, A, c, e, s, _, _, q⟩ := open_slG (m := 36) (en := Og.cells) (Q := wfOg) (by omega) Tryz.underlying38 (by kernel_rfl) (fun n cs x h1 h2 => el_og h1 h2) hf
  obtain ⟨rfl, rfl, rfl⟩ : a = A ∧ len = l.length ∧ cap = c := by simpa using e
  exact ⟨l, s, q⟩
end
end Go.Proofs.YthboebhghaabnaaGreatDoor

namespace Go.Proofs.YthboebhghaabnaaGreatDoor
open Go.RowKit Go.WideShapes Go.ChangeShapes
/-! The row's last step where the call left a world of which 'Below' is known. -/
section
variable {H : Type} {enc : TypeId × Value → H} {P : Program}
theorem post_of_below {f : Func} {s : ChangeSpec} {apart fresh handsOn again : Bool} {W W' : World} {args : Array Value} {v : Value} {ds gs : List (DataW H)} {before pa pv : List MemPlace}
    (hW : DataW.Whole enc P f.params.toList s.vars apart W args.toList ds gs before)
    (hres : ∀ (b : Nat) (sp : Nat → Bool) (hd : Bool), DataW.TrodAll enc P W' b sp hd f.resultTypes.toList (v.resultList f.resultTypes.size) (s.fn H (ds ++ gs)).results [])
    (hargs : ∀ sp : Nat → Bool, (∀ p ∈ before, sp p.block = true) → DataW.TrodAll enc P W' 0 sp true f.params.toList args.toList (s.fn H (ds ++ gs)).args pa)
    (hvars : ∀ sp : Nat → Bool, (∀ p ∈ before, sp p.block = true) → DataW.TrodVars enc P W' sp s.vars (s.fn H (ds ++ gs)).vars pv)
    (hps : before = pa ++ pv) (hb : Below W.heap.size W W')
    (hok : ∀ (j : Nat) (t : TypeId) (r : Value), f.resultTypes[j]? = some t → (v.resultList f.resultTypes.size)[j]? = some r → Value.okWide P W' .any 0 t r) :
    s.post enc P f apart fresh handsOn again W args v W' := by
  have hlt : ∀ p ∈ before, p.block < W.heap.size := fun p hp => hW.lt p hp
  have hold : ∀ p ∈ before, (fun b => decide (b < W.heap.size)) p.block = true := fun p hp => by simpa using hlt p hp
  refine ⟨ds, gs, before, [], pa, pv, hW, hres _ _ _, hargs _ hold, hvars _ hold, World.keptBut_mono (fun p hp => ⟨hp, ?_⟩) (hb.frame (· ∈ before)), fun _ => ?_⟩
  · rw [hps, List.mem_append] at hp
    exact Or.inr hp
  · obtain ⟨_, _, _, _, _, hz, hn⟩ := hW
    refine ⟨hok, _, _, ([] ++ pa) ++ pv, ⟨[] ++ pa, pv, trodAll_append (hargs _ (fun _ _ => rfl)) (hres _ _ _), hvars _ (fun _ _ => rfl), rfl, ?_, ?_⟩, ?_⟩
    · intro b off hp
      have hin : MemPlace.cell b off ∈ before := by rw [hps]; simpa using hp
      rw [hb.frozen (hlt _ hin)]
      exact hz b off hin
    · intro ha
      have := hn ha
      rw [hps] at this
      simpa using this
    · intro p hp _
      rw [hps]
      simpa using hp
end
end Go.Proofs.YthboebhghaabnaaGreatDoor

namespace Go.Proofs.YthboebhghaabnaaGreatDoor
open Go.ChangeShapes Go.WideShapes Go.RowKit Go.WideElems Fk Sha
/-! What the listed tables give. -/
theorem ints_of {enc : TypeId × Value → Unit} {P : Program} {W : World} {base : Nat} {spare : Nat → Bool} {held : Bool} {fuel n : Nat} {t e : TypeId} {k : IntKind} {cs : List Value} {D : List (DataW Unit)} {p : List MemPlace} (ht : P.underlying t = some (.array n e)) (he : P.underlying e = some (.int k)) (hc : P.cellsOf e = 1)
    (h : DataW.trod enc P W base spare held fuel t cs = some (.agg D, p)) {i : Nat} (hi : i < n) : ∃ x : Int, cs[i]? = some (.int k x) ∧ D[i]? = some (.lit (.int k x)) := by
  obtain ⟨xs, m, _, hx, _, hl, hel⟩ := DataW.trod_array ht h
  have h1 := hel i hi
  rw [hc, Nat.mul_one] at h1
  obtain ⟨y, hy⟩ : ∃ y, xs[i]? = some y := ⟨_, List.getElem?_eq_getElem (by omega)⟩
  obtain ⟨x, e1, e2, _⟩ := DataW.trod_int he (h1.trans hy)
  refine ⟨x, ?_, ?_⟩
  · have := congrArg (fun l : List Value => l[0]?) e1
    simp only [List.getElem?_take, List.getElem?_drop] at this
    simpa using this
  · simp only [Prod.mk.injEq, DataW.agg.injEq] at hx
    rw [hx.1, List.getElem?_map, hy, Option.map_some, e2]
theorem gStart : Tryz.prog.globalNamed "franking/digest.start" = some 0 := by kernel_rfl
theorem gNumbers : Tryz.prog.globalNamed "franking/digest.numbers" = some 1 := by kernel_rfl
theorem tStart : (Tryz.prog.globals[0]?).map (·.type) = some 144 := by kernel_rfl
theorem tNumbers : (Tryz.prog.globals[1]?).map (·.type) = some 158 := by kernel_rfl
theorem dStart : (Rows.laid_franking_digest_start : DataW Unit) = .agg (startS.list.map fun x => .lit (.int .u32 (x.toNat : Int))) := by kernel_rfl
theorem dNumbers : (Rows.laid_franking_digest_numbers : DataW Unit) = .agg (numbersL.map fun x => .lit (.int .u32 (x.toNat : Int))) := by kernel_rfl
theorem tab_laid {W : World} (h : laidMetH Tryz.prog [("franking/digest.start", Rows.laid_franking_digest_start), ("franking/digest.numbers", Rows.laid_franking_digest_numbers)] W) : Tab W ∧ (1 < W.heap.size ∧ 0 < W.heap.size) := by
  rw [MakeChecks.laidMetH_plain _ _ _ (by kernel_rfl)] at h
  obtain ⟨ps, ⟨g0, t0, cs0, f0, p0, q0, hg0, ht0, hv0, hd0, ⟨g1, t1, cs1, f1, p1, q1, hg1, ht1, hv1, hd1, _, _⟩, _⟩, _, _⟩ := h
  obtain rfl := Option.some.inj (gStart.symm.trans hg0)
  obtain rfl := Option.some.inj (gNumbers.symm.trans hg1)
  obtain rfl := Option.some.inj (tStart.symm.trans ht0)
  obtain rfl := Option.some.inj (tNumbers.symm.trans ht1)
  rw [dStart] at hd0
  rw [dNumbers] at hd1
  have k1 : ∀ i, i < 64 → W.cell? ⟨1, i, none⟩ = some (u (numbersL.getD i 0)) := by
    intro i hi
    obtain ⟨x, e1, e2⟩ := ints_of Tryz.underlying158 Tryz.underlying143 (by kernel_rfl) hd1 hi
    have hl : i < numbersL.length := hi
    rw [List.getElem?_map, List.getElem?_eq_getElem hl] at e2
    have e3 : un (numbersL.getD i 0) = x := by
      rw [List.getD_eq_getElem?_getD, List.getElem?_eq_getElem hl]
      simp only [Option.map_some, Option.some.injEq, DataW.lit.injEq, Lit.int.injEq, true_and] at e2
      exact e2
    have := World.var?_cell hg1 hv1 i
    rw [this]
    unfold u
    rw [e3]
    simpa using e1
  have k2 : ∀ i, i < 8 → W.cell? ⟨0, i, none⟩ = some (u (startS.list.getD i 0)) := by
    intro i hi
    obtain ⟨x, e1, e2⟩ := ints_of Tryz.underlying144 Tryz.underlying143 (by kernel_rfl) hd0 hi
    have hl : i < startS.list.length := hi
    rw [List.getElem?_map, List.getElem?_eq_getElem hl] at e2
    have e3 : un (startS.list.getD i 0) = x := by
      rw [List.getD_eq_getElem?_getD, List.getElem?_eq_getElem hl]
      simp only [Option.map_some, Option.some.injEq, DataW.lit.injEq, Lit.int.injEq, true_and] at e2
      exact e2
    have := World.var?_cell hg0 hv0 i
    rw [this]
    unfold u
    rw [e3]
    simpa using e1
  exact ⟨⟨k1, k2⟩, World.block_lt_of_cell? W _ (k1 0 (by omega)), World.block_lt_of_cell? W _ (k2 0 (by omega))⟩
end Go.Proofs.YthboebhghaabnaaGreatDoor

namespace Go.Proofs.YthboebhghaabnaaGreatDoor
open Go.RowKit Fk Sha
/-! The reference's small functions of the hash. -/
theorem ret_u32s {a b : Int} (h : a = b) : Ending.returned (.int .u32 a) = .returned (.int .u32 b) := by rw [h]
theorem ror_2 (x : W) (w : World) :
    Calls Tryz.prog 113 #[u x, .int .i64 2] w fun e w' => e = .returned (u (rr x 2)) ∧ ∃ m, w' = w.drewN m := by
  unfold u
  have hx := (un_bd x).1
  have h2 := shr_n x 2
  have h3 := shl_n x (32 - 2)
  rw [show ((2 : Int) ^ 2) = 4 by decide] at h2
  rw [show ((2 : Int) ^ (32 - 2)) = 1073741824 by decide] at h3
  have h4 := or_n (x >>> 2) (x <<< (32 - 2))
  go_enter Tryz.func113, Tryz.ntmps113
  go_wp2
  go_quiet (fail)
  go_wp2
  go_ret
  exact ⟨ret_u32s (by unfold rr; rfl), _, rfl⟩
theorem ror_6 (x : W) (w : World) :
    Calls Tryz.prog 113 #[u x, .int .i64 6] w fun e w' => e = .returned (u (rr x 6)) ∧ ∃ m, w' = w.drewN m := by
  unfold u
  have hx := (un_bd x).1
  have h2 := shr_n x 6
  have h3 := shl_n x (32 - 6)
  rw [show ((2 : Int) ^ 6) = 64 by decide] at h2
  rw [show ((2 : Int) ^ (32 - 6)) = 67108864 by decide] at h3
  have h4 := or_n (x >>> 6) (x <<< (32 - 6))
  go_enter Tryz.func113, Tryz.ntmps113
  go_wp2
  go_quiet (fail)
  go_wp2
  go_ret
  exact ⟨ret_u32s (by unfold rr; rfl), _, rfl⟩
theorem ror_7 (x : W) (w : World) :
    Calls Tryz.prog 113 #[u x, .int .i64 7] w fun e w' => e = .returned (u (rr x 7)) ∧ ∃ m, w' = w.drewN m := by
  unfold u
  have hx := (un_bd x).1
  have h2 := shr_n x 7
  have h3 := shl_n x (32 - 7)
  rw [show ((2 : Int) ^ 7) = 128 by decide] at h2
  rw [show ((2 : Int) ^ (32 - 7)) = 33554432 by decide] at h3
  have h4 := or_n (x >>> 7) (x <<< (32 - 7))
  go_enter Tryz.func113, Tryz.ntmps113
  go_wp2
  go_quiet (fail)
  go_wp2
  go_ret
  exact ⟨ret_u32s (by unfold rr; rfl), _, rfl⟩
theorem ror_11 (x : W) (w : World) :
    Calls Tryz.prog 113 #[u x, .int .i64 11] w fun e w' => e = .returned (u (rr x 11)) ∧ ∃ m, w' = w.drewN m := by
  unfold u
  have hx := (un_bd x).1
  have h2 := shr_n x 11
  have h3 := shl_n x (32 - 11)
  rw [show ((2 : Int) ^ 11) = 2048 by decide] at h2
  rw [show ((2 : Int) ^ (32 - 11)) = 2097152 by decide] at h3
  have h4 := or_n (x >>> 11) (x <<< (32 - 11))
  go_enter Tryz.func113, Tryz.ntmps113
  go_wp2
  go_quiet (fail)
  go_wp2
  go_ret
  exact ⟨ret_u32s (by unfold rr; rfl), _, rfl⟩
theorem ror_13 (x : W) (w : World) :
    Calls Tryz.prog 113 #[u x, .int .i64 13] w fun e w' => e = .returned (u (rr x 13)) ∧ ∃ m, w' = w.drewN m := by
  unfold u
  have hx := (un_bd x).1
  have h2 := shr_n x 13
  have h3 := shl_n x (32 - 13)
  rw [show ((2 : Int) ^ 13) = 8192 by decide] at h2
  rw [show ((2 : Int) ^ (32 - 13)) = 524288 by decide] at h3
  have h4 := or_n (x >>> 13) (x <<< (32 - 13))
  go_enter Tryz.func113, Tryz.ntmps113
  go_wp2
  go_quiet (fail)
  go_wp2
  go_ret
  exact ⟨ret_u32s (by unfold rr; rfl), _, rfl⟩
theorem ror_17 (x : W) (w : World) :
    Calls Tryz.prog 113 #[u x, .int .i64 17] w fun e w' => e = .returned (u (rr x 17)) ∧ ∃ m, w' = w.drewN m := by
  unfold u
  have hx := (un_bd x).1
  have h2 := shr_n x 17
  have h3 := shl_n x (32 - 17)
  rw [show ((2 : Int) ^ 17) = 131072 by decide] at h2
  rw [show ((2 : Int) ^ (32 - 17)) = 32768 by decide] at h3
  have h4 := or_n (x >>> 17) (x <<< (32 - 17))
  go_enter Tryz.func113, Tryz.ntmps113
  go_wp2
  go_quiet (fail)
  go_wp2
  go_ret
  exact ⟨ret_u32s (by unfold rr; rfl), _, rfl⟩
theorem ror_18 (x : W) (w : World) :
    Calls Tryz.prog 113 #[u x, .int .i64 18] w fun e w' => e = .returned (u (rr x 18)) ∧ ∃ m, w' = w.drewN m := by
  unfold u
  have hx := (un_bd x).1
  have h2 := shr_n x 18
  have h3 := shl_n x (32 - 18)
  rw [show ((2 : Int) ^ 18) = 262144 by decide] at h2
  rw [show ((2 : Int) ^ (32 - 18)) = 16384 by decide] at h3
  have h4 := or_n (x >>> 18) (x <<< (32 - 18))
  go_enter Tryz.func113, Tryz.ntmps113
  go_wp2
  go_quiet (fail)
  go_wp2
  go_ret
  exact ⟨ret_u32s (by unfold rr; rfl), _, rfl⟩
theorem ror_19 (x : W) (w : World) :
    Calls Tryz.prog 113 #[u x, .int .i64 19] w fun e w' => e = .returned (u (rr x 19)) ∧ ∃ m, w' = w.drewN m := by
  unfold u
  have hx := (un_bd x).1
  have h2 := shr_n x 19
  have h3 := shl_n x (32 - 19)
  rw [show ((2 : Int) ^ 19) = 524288 by decide] at h2
  rw [show ((2 : Int) ^ (32 - 19)) = 8192 by decide] at h3
  have h4 := or_n (x >>> 19) (x <<< (32 - 19))
  go_enter Tryz.func113, Tryz.ntmps113
  go_wp2
  go_quiet (fail)
  go_wp2
  go_ret
  exact ⟨ret_u32s (by unfold rr; rfl), _, rfl⟩
theorem ror_22 (x : W) (w : World) :
    Calls Tryz.prog 113 #[u x, .int .i64 22] w fun e w' => e = .returned (u (rr x 22)) ∧ ∃ m, w' = w.drewN m := by
  unfold u
  have hx := (un_bd x).1
  have h2 := shr_n x 22
  have h3 := shl_n x (32 - 22)
  rw [show ((2 : Int) ^ 22) = 4194304 by decide] at h2
  rw [show ((2 : Int) ^ (32 - 22)) = 1024 by decide] at h3
  have h4 := or_n (x >>> 22) (x <<< (32 - 22))
  go_enter Tryz.func113, Tryz.ntmps113
  go_wp2
  go_quiet (fail)
  go_wp2
  go_ret
  exact ⟨ret_u32s (by unfold rr; rfl), _, rfl⟩
theorem ror_25 (x : W) (w : World) :
    Calls Tryz.prog 113 #[u x, .int .i64 25] w fun e w' => e = .returned (u (rr x 25)) ∧ ∃ m, w' = w.drewN m := by
  unfold u
  have hx := (un_bd x).1
  have h2 := shr_n x 25
  have h3 := shl_n x (32 - 25)
  rw [show ((2 : Int) ^ 25) = 33554432 by decide] at h2
  rw [show ((2 : Int) ^ (32 - 25)) = 128 by decide] at h3
  have h4 := or_n (x >>> 25) (x <<< (32 - 25))
  go_enter Tryz.func113, Tryz.ntmps113
  go_wp2
  go_quiet (fail)
  go_wp2
  go_ret
  exact ⟨ret_u32s (by unfold rr; rfl), _, rfl⟩
end Go.Proofs.YthboebhghaabnaaGreatDoor

namespace Go.Proofs.YthboebhghaabnaaGreatDoor
open Go.RowKit Fk Sha
/-! The reference's words and numbers. -/
theorem four_of {l : List B} (h : l.length = 4) : ∃ a b c d, l = [a, b, c, d] := by
  match l, h with
  | [a, b, c, d], _ => exact ⟨a, b, c, d, rfl⟩
theorem wd_join (a b c d : B) : bits .or .u32 (bits .or .u32 (bits .or .u32 (bn a * (16777216 : Int)) (bn b * (65536 : Int))) (bn c * (256 : Int))) (bn d) = un (wd [a, b, c, d]) := by
  rw [wd_four]
  have e1 := shl_n (a.setWidth 32) 24
  have e2 := shl_n (b.setWidth 32) 16
  have e3 := shl_n (c.setWidth 32) 8
  obtain ⟨p0, q0⟩ := bn_bd a
  obtain ⟨p1, q1⟩ := bn_bd b
  obtain ⟨p2, q2⟩ := bn_bd c
  rw [show ((2 : Int) ^ 24) = 16777216 by decide, byte_n, Int.emod_eq_of_lt (by omega) (by omega)] at e1
  rw [show ((2 : Int) ^ 16) = 65536 by decide, byte_n, Int.emod_eq_of_lt (by omega) (by omega)] at e2
  rw [show ((2 : Int) ^ 8) = 256 by decide, byte_n, Int.emod_eq_of_lt (by omega) (by omega)] at e3
  rw [e1, e2, e3, ← byte_n d, or_n, or_n, or_n]
set_option maxHeartbeats 1000000 in
theorem refword_any (l : List B) (b off cap : Nat) (w : World) (hl : l.length = 4) (h : ∀ i, i < 4 → w.cell? ⟨b, off + i, none⟩ = some (bv (l.getD i default))) :
    Calls Tryz.prog 112 #[.slice (some ⟨b, off, none⟩) 4 cap] w fun e w' => e = .returned (u (wd l)) ∧ ∃ m, w' = w.drewN m := by
  obtain ⟨x0, x1, x2, x3, rfl⟩ := four_of hl
  have c0 : w.cell? ⟨b, off, none⟩ = some (.int .u8 (bn x0)) := h 0 (by omega)
  have c1 : w.cell? ⟨b, off + 1, none⟩ = some (.int .u8 (bn x1)) := h 1 (by omega)
  have c2 : w.cell? ⟨b, off + 2, none⟩ = some (.int .u8 (bn x2)) := h 2 (by omega)
  have c3 : w.cell? ⟨b, off + 3, none⟩ = some (.int .u8 (bn x3)) := h 3 (by omega)
  have hj := wd_join x0 x1 x2 x3
  obtain ⟨p0, q0⟩ := bn_bd x0
  obtain ⟨p1, q1⟩ := bn_bd x1
  obtain ⟨p2, q2⟩ := bn_bd x2
  obtain ⟨p3, q3⟩ := bn_bd x3
  unfold u
  generalize un (wd [x0, x1, x2, x3]) = y at *
  generalize bn x0 = n0 at *
  generalize bn x1 = n1 at *
  generalize bn x2 = n2 at *
  generalize bn x3 = n3 at *
  have HJ := Lib.hid hj
  clear h hj hl
  go_enter Tryz.func112, Tryz.ntmps112
  go_wp2
  go_quiet (fail)
  go_wp2
  go_ret
  exact ⟨ret_u32s (by rw [← HJ.out]), _, rfl⟩
set_option maxRecDepth 100000 in
set_option maxHeartbeats 1000000 in
theorem refnumbers_any (w : World) :
    Calls Tryz.prog 114 #[] w fun e w' => e = .returned (.agg (numbersL.map u).toArray) ∧ Below w.heap.size w w' := by
  go_enter Tryz.func114, Tryz.ntmps114
  go_upto_region 1 with (fail)
  have hinf : (Tryz.prog.info? 158).map (·.size) = some 64 := by kernel_rfl
  have hg := World.alloc_heap_new w (.cells (List.replicate 64 (Value.int .u32 0)).toArray 158)
  refine wp_region_lit ?_
  refine wpList_build rfl 158 _ rfl (by kernel_rfl) ?_
  refine wpList_store_row rfl 158 (.tmp 0) (.tmp 1) rfl w.heap.size (numbersL.map u).toArray rfl (by kernel_rfl) 158 (List.replicate 64 (Value.int .u32 0)).toArray hg hinf rfl (by kernel_rfl) ?_
  refine (show _ = w.alloc (.cells (numbersL.map u).toArray 158) from setRow_new w _ _ _) ▸ ?_
  go_wp2
  exact bodyPost_ret (v := .agg (numbersL.map u).toArray) (results_cell_row (g := w.heap.size) (t := 158) (fr := (0, 0)) rfl _ _ _ _ rfl (World.alloc_heap_new w _) Tryz.underlying158 rfl hinf) rfl ⟨rfl, (Below.refl _ w).alloc (Nat.le_refl _) _⟩
end Go.Proofs.YthboebhghaabnaaGreatDoor

set_option linter.unusedSimpArgs false
namespace Go.Proofs.YthboebhghaabnaaGreatDoor
open Go.RowKit Fk Sha
/-! The reference's block. -/
set_option maxRecDepth 100000 in
/-- the numbers laid into a new block -/
theorem store64 (W : World) : (storeCells ⟨W.heap.size, 0, none⟩ (numbersL.map u)).run Tryz.prog (W.alloc (.cells #[Value.int IntKind.u32 0, Value.int IntKind.u32 0, Value.int IntKind.u32 0, Value.int IntKind.u32 0, Value.int IntKind.u32 0, Value.int IntKind.u32 0, Value.int IntKind.u32 0, Value.int IntKind.u32 0, Value.int IntKind.u32 0, Value.int IntKind.u32 0, Value.int IntKind.u32 0, Value.int IntKind.u32 0, Value.int IntKind.u32 0, Value.int IntKind.u32 0, Value.int IntKind.u32 0, Value.int IntKind.u32 0, Value.int IntKind.u32 0, Value.int IntKind.u32 0, Value.int IntKind.u32 0, Value.int IntKind.u32 0, Value.int IntKind.u32 0, Value.int IntKind.u32 0, Value.int IntKind.u32 0, Value.int IntKind.u32 0, Value.int IntKind.u32 0, Value.int IntKind.u32 0, Value.int IntKind.u32 0, Value.int IntKind.u32 0, Value.int IntKind.u32 0, Value.int IntKind.u32 0, Value.int IntKind.u32 0, Value.int IntKind.u32 0, Value.int IntKind.u32 0, Value.int IntKind.u32 0, Value.int IntKind.u32 0, Value.int IntKind.u32 0, Value.int IntKind.u32 0, Value.int IntKind.u32 0, Value.int IntKind.u32 0, Value.int IntKind.u32 0, Value.int IntKind.u32 0, Value.int IntKind.u32 0, Value.int IntKind.u32 0, Value.int IntKind.u32 0, Value.int IntKind.u32 0, Value.int IntKind.u32 0, Value.int IntKind.u32 0, Value.int IntKind.u32 0, Value.int IntKind.u32 0, Value.int IntKind.u32 0, Value.int IntKind.u32 0, Value.int IntKind.u32 0, Value.int IntKind.u32 0, Value.int IntKind.u32 0, Value.int IntKind.u32 0, Value.int IntKind.u32 0, Value.int IntKind.u32 0, Value.int IntKind.u32 0, Value.int IntKind.u32 0, Value.int IntKind.u32 0, Value.int IntKind.u32 0, Value.int IntKind.u32 0, Value.int IntKind.u32 0, Value.int IntKind.u32 0] 158)) = .ok () (W.alloc (.cells (numbersL.map u).toArray 158)) := by
  have := run_storeCells_from (P := Tryz.prog) W.heap.size 158 (numbersL.map u) 0 (List.replicate 64 (Value.int .u32 0)).toArray (W.alloc (.cells (List.replicate 64 (Value.int .u32 0)).toArray 158)) (World.alloc_heap_new W _) rfl (fun v hv => by obtain ⟨y, _, rfl⟩ := List.mem_map.1 hv; rfl)
  rw [List.take_zero, List.nil_append, setRow_new] at this
  exact this
theorem not_if (x : W) : bits .xor .u32 (if IntKind.u32.signed = true then -1 else IntKind.u32.max) (un x) = un (~~~x) := not_n x
theorem num_at {W : World} {g : Nat} {t : TypeId} (h : Row W g t (numbersL.map u)) {k : Nat} (hk : k < 64) : W.cell? ⟨g, k, none⟩ = some (u (numbersL.getD k 0)) := by
  have hl : k < numbersL.length := hk
  rw [Row.cell h, List.getElem?_map, List.getD_eq_getElem?_getD, List.getElem?_eq_getElem hl]; rfl
set_option maxRecDepth 100000 in
set_option maxHeartbeats 4000000 in
theorem block_any (s : St) (blk : List B) (bg off cap : Nat) (w : World) (hl : blk.length = 64) (hcap : 64 ≤ cap) (hcap2 : cap ≤ 9223372036854775807)
    (hB : ∀ i, i < 64 → w.cell? ⟨bg, off + i, none⟩ = some (bv (blk.getD i default))) (hbg : bg < w.heap.size) :
    Calls Tryz.prog 110 #[.agg #[.int .u32 (un s.a), .int .u32 (un s.b), .int .u32 (un s.c), .int .u32 (un s.d), .int .u32 (un s.e), .int .u32 (un s.f), .int .u32 (un s.g), .int .u32 (un s.h)], .slice (some ⟨bg, off, none⟩) 64 cap] w fun e w' => e = .returned (.agg ((absorb s blk).list.map u).toArray) ∧ Below w.heap.size w w' := by
  go_enter Tryz.func110, Tryz.ntmps110
  go_upto_region 1 with (fail)
  obtain ⟨w0, hw0⟩ : ∃ w0 : World, (w.alloc (.cells (s.list.map u).toArray 144)).alloc (.cells (List.replicate 8 (Value.int .u32 0)).toArray 144) = w0 := ⟨_, rfl⟩
  have hz0 : w0.heap.size = w.heap.size + 2 := by rw [← hw0]; simp
  have hS0 : Row w0 w.heap.size 144 (s.list.map u) := by rw [← hw0]; exact Row.alloc (Row.new w _ _) _
  have hR0 : Row w0 (w.heap.size + 1) 144 (List.replicate 8 (.int .u32 0)) := by rw [← hw0]; exact row_at' (by simp) _ _
  have hB0 : Below w.heap.size w w0 := by rw [← hw0]; exact ((Below.refl _ w).alloc (Nat.le_refl _) _).alloc (by simp) _
  have hb0 : ∀ i, i < 64 → w0.cell? ⟨bg, off + i, none⟩ = some (bv (blk.getD i default)) := fun i hi => (hB0.cell (p := ⟨bg, off + i, none⟩) hbg).trans (hB i hi)
  have hbg0 : bg < w0.heap.size := by omega
  refine (show _ = w0 from hw0) ▸ ?_
  have hwd : Wd w0 (w0.alloc (Obj.cells (List.replicate 64 (Value.int IntKind.u32 0)).toArray 158)) [] := ⟨(Below.refl _ _).alloc (Nat.le_refl _) _, by simp, Row.new w0 _ _⟩
  have HB := Lib.hid hb0
  have HZ := Lib.hid hz0
  have HS := Lib.hid hS0
  have HR := Lib.hid hR0
  have HB0 := Lib.hid hB0
  clear hw0 hB hb0 hz0 hS0 hR0 hB0
  have hl16 := fun k => first16_length blk k
  refine wp_region_lit ?_
  refine Great.wpList_runTo rfl (some 22) rfl (.agg (List.replicate 64 (Value.int .u32 0)).toArray) w0 (by kernel_rfl) ?_
  refine Great.wpList_runTo rfl (some 5) rfl (.pointer (some ⟨w0.heap.size, 0, none⟩)) (w0.alloc (.cells (List.replicate 64 (Value.int .u32 0)).toArray 158)) (by kernel_rfl) ?_
  refine wpList_store_row rfl 158 (.tmp 5) (.tmp 22) rfl w0.heap.size (List.replicate 64 (Value.int .u32 0)).toArray rfl rfl 158 (List.replicate 64 (Value.int .u32 0)).toArray (World.alloc_heap_new w0 _) (by kernel_rfl) rfl (by kernel_rfl) ?_
  rw [setRow_new w0]
  generalize Value.agg (List.replicate 64 (Value.int .u32 0)).toArray = v22 at *
  generalize w0.alloc (.cells (List.replicate 64 (Value.int .u32 0)).toArray 158) = W1 at *
  go_wp2_with fail
  go_loopg [6] 16 (fun gk i wr => ∃ k : Nat, i = .int .i64 k ∧ k + gk = 16 ∧ Wd w0 wr (first16 blk k))
  case atStart => exact ⟨0, rfl, rfl, hwd⟩
  case round =>
    clear hwd
    obtain ⟨k, rfl, hk, hR⟩ := hrel
    by_cases hlt : k < 16
    · have hc : ∀ i, i < 4 → wr.cell? ⟨bg, off + 4 * k + i, none⟩ = some (bv (((blk.drop (4 * k)).take 4).getD i default)) := fun i hi => by
        rw [hR.below.cell (p := ⟨bg, off + 4 * k + i, none⟩) hbg0, Nat.add_assoc, HB.out _ (by omega), List.getD_eq_getElem?_getD, List.getD_eq_getElem?_getD, List.getElem?_take_of_lt hi, List.getElem?_drop]
      have hw := fun cap => refword_any ((blk.drop (4 * k)).take 4) bg (off + 4 * k) cap wr (by simp; omega) hc
      have hx : ∀ m, ∃ v, (wr.drewN m).cell? ⟨w0.heap.size, k, none⟩ = some v := fun m => ⟨_, (Row.cell (hR.drewN m).row k).trans (List.getElem?_eq_getElem (by simp [hl16]; omega))⟩
      have hp := fun m => (hR.drewN m).put (hl16 k) (by omega) (wd ((blk.drop (4 * k)).take 4))
      have hf := fun m => Row.frozen (hR.drewN m).row k
      unfold u at hw hp
      generalize un (wd ((blk.drop (4 * k)).take 4)) = x at *
      have HW := Lib.hid hw
      have HP := Lib.hid hp
      have HX := Lib.hid hx
      have HF := Lib.hid hf
      clear hw hp hc hR hx hf
      go_wp2_with (go_at_call 112; (with_reducible refine (HW.out _).mono ?_); rintro e w1 ⟨rfl, m, rfl⟩; obtain ⟨v0, hv0⟩ := HX.out m; have hf := HF.out m)
      go_roundg (gk - 1)
      case measure => omega
      case rel => exact ⟨k + 1, by go_num, by omega, HP.out _⟩
    · obtain rfl : k = 16 := by omega
      have hsc : Wd w0 wr (sched blk 0) := hR
      clear hR hl16
      go_wp2_with fail
      go_loopg [7] 48 (fun gk i wr => ∃ k : Nat, i = .int .i64 k ∧ 16 ≤ k ∧ k + gk = 64 ∧ Wd w0 wr (sched blk (k - 16)))
      case atStart => exact ⟨16, rfl, by omega, rfl, hsc⟩
      case round =>
        obtain ⟨k, rfl, hk16, hk, hR⟩ := hrel
        by_cases hlt : k < 64
        · have hlen := sched_length blk (k - 16)
          have HRk := Lib.hid hR
          have c15 := hR.get (i := k - 15) (by omega)
          have c2 := hR.get (i := k - 2) (by omega)
          obtain ⟨X, hX⟩ : ∃ X, (sched blk (k - 16)).getD (k - 15) 0 = X := ⟨_, rfl⟩
          obtain ⟨Y, hY⟩ : ∃ Y, (sched blk (k - 16)).getD (k - 2) 0 = Y := ⟨_, rfl⟩
          rw [hX] at c15
          rw [hY] at c2
          have HX := Lib.hid hX
          have HY := Lib.hid hY
          clear hR hsc hlen hX hY
          unfold u at c15 c2
          go_wp2_with fail
          clear c15 c2
          obtain ⟨W2, rfl⟩ : ∃ W2 : World, W2 = wr := ⟨_, rfl⟩
          have hR := HRk.out
          clear HRk
          have hlen := sched_length blk (k - 16)
          have c16 := hR.get (i := k - 16) (by omega)
          have c7 := hR.get (i := k - 7) (by omega)
          have hp := fun m => (hR.drewN m).put (k := k) (by omega) hlt (nextW (sched blk (k - 16)) k)
          have hf := fun m => Row.frozen (hR.drewN m).row k
          have hv : ∀ m, ∃ v, (W2.drewN m).cell? ⟨w0.heap.size, k, none⟩ = some v := fun m => ⟨_, (Row.cell (hR.drewN m).row k).trans (List.getElem?_eq_getElem (by simp; omega))⟩
          have e1 : sched blk (k + 1 - 16) = sched blk (k - 16) ++ [nextW (sched blk (k - 16)) k] := by
            have : nextW (sched blk (k - 16)) k = nextW (sched blk (k - 16)) (16 + (k - 16)) := by rw [show 16 + (k - 16) = k by omega]
            rw [this, show k + 1 - 16 = (k - 16) + 1 by omega]; rfl
          rw [← e1] at hp
          have hn : nextW (sched blk (k - 16)) k = (sched blk (k - 16)).getD (k - 16) 0 + s0 ((sched blk (k - 16)).getD (k - 15) 0) + (sched blk (k - 16)).getD (k - 7) 0 + s1 ((sched blk (k - 16)).getD (k - 2) 0) := rfl
          rw [hn, HX.out, HY.out] at hp
          generalize (sched blk (k - 16)).getD (k - 16) 0 = A at *
          generalize (sched blk (k - 16)).getD (k - 7) 0 = Z at *
          have q3 := shr_lit3 X
          have q10 := shr_lit10 Y
          have HP := Lib.hid hp
          have HF := Lib.hid hf
          have HV := Lib.hid hv
          clear hp hf hv e1 hR hlen hn
          have r7 := fun w => ror_7 X w
          have r18 := fun w => ror_18 X w
          have r17 := fun w => ror_17 Y w
          have r19 := fun w => ror_19 Y w
          unfold u at c16 c7 r7 r18 r17 r19
          have R7 := Lib.hid r7
          have R18 := Lib.hid r18
          have R17 := Lib.hid r17
          have R19 := Lib.hid r19
          clear r7 r18 r17 r19
          have bX := un_bd X
          have bY := un_bd Y
          have s1 : IntKind.i64.wrap ((k : Int) - 16) = (k : Int) - 16 := IntWalk.i64_in _ (by omega)
          have s2 : IntKind.i64.wrap ((k : Int) - 7) = (k : Int) - 7 := IntWalk.i64_in _ (by omega)
          have s3 : (0 : Int) ≤ (k : Int) - 16 := by omega
          have s4 : (k : Int) - 16 < 64 := by omega
          have s5 : (0 : Int) ≤ (k : Int) - 7 := by omega
          have s6 : (k : Int) - 7 < 64 := by omega
          have s7 : ((k : Int) - 16).toNat = k - 16 := by omega
          have s8 : ((k : Int) - 7).toNat = k - 7 := by omega
          have s9 : (0 : Int) ≤ k := by omega
          have s10 : (k : Int) < 64 := by omega
          have s11 : (16 : Int) ≤ k := by omega
          have s12 : (7 : Int) ≤ k := by omega
          refine wp_region_ord 29 [(1, 0), (1, 1), (1, 2), (1, 3), (1, 4), (1, 5), (1, 7), (1, 10), (1, 11), (1, 14), (1, 15), (1, 16), (1, 17), (1, 19), (1, 21), (1, 24), (1, 25), (2, 6), (2, 8), (1, 9), (1, 12), (1, 13), (1, 18), (2, 20), (2, 22), (1, 23), (1, 26), (1, 27), (1, 28)] (fun w' => ∃ m, w' = W2.drewN m) (by kernel_rfl) (by kernel_rfl) (fun _ _ d _ _ h => by cases d <;> exact h) ⟨1, rfl⟩ ?_
          have hS : ∃ m, W2.drew = W2.drewN m := ⟨1, rfl⟩
          generalize hV : W2.drew = V at hS ⊢
          clear hV
          iterate 17
            refine wpOrd_take (v := ?_) rfl (by rfl) (fun w hSw => ?_) ?_
            rotate_left 1
            · obtain ⟨_, rfl⟩ := hSw
              go_simp
              with_reducible rfl
            simp only [Act.put, List.setIfInBounds_toArray, List.set_cons_zero, List.set_cons_succ]
          refine wpOrd_step rfl (fun K hK => ⟨by rfl, ?_⟩)
          go_simp
          go_at_call 113
          refine (R7.out _).mono ?_
          rintro e w1 ⟨rfl, q9, rfl⟩
          have hS1 : ∃ m, V.drewN q9 = W2.drewN m := by obtain ⟨q, rfl⟩ := hS; exact ⟨q + q9, World.drewN_drewN ..⟩
          refine hK _ _ hS1 ?_
          clear hK K hS
          have hS := hS1
          clear hS1
          generalize V.drewN q9 = V at hS ⊢
          try simp only [Act.put, List.setIfInBounds_toArray, List.set_cons_zero, List.set_cons_succ]
          refine wpOrd_step rfl (fun K hK => ⟨by rfl, ?_⟩)
          go_simp
          go_at_call 113
          refine (R18.out _).mono ?_
          rintro e w1 ⟨rfl, q9, rfl⟩
          have hS1 : ∃ m, V.drewN q9 = W2.drewN m := by obtain ⟨q, rfl⟩ := hS; exact ⟨q + q9, World.drewN_drewN ..⟩
          refine hK _ _ hS1 ?_
          clear hK K hS
          have hS := hS1
          clear hS1
          generalize V.drewN q9 = V at hS ⊢
          try simp only [Act.put, List.setIfInBounds_toArray, List.set_cons_zero, List.set_cons_succ]
          iterate 4
            refine wpOrd_take (v := ?_) rfl (by rfl) (fun w hSw => ?_) ?_
            rotate_left 1
            · obtain ⟨_, rfl⟩ := hSw
              go_simp
              with_reducible rfl
            simp only [Act.put, List.setIfInBounds_toArray, List.set_cons_zero, List.set_cons_succ]
          refine wpOrd_step rfl (fun K hK => ⟨by rfl, ?_⟩)
          go_simp
          go_at_call 113
          refine (R17.out _).mono ?_
          rintro e w1 ⟨rfl, q9, rfl⟩
          have hS1 : ∃ m, V.drewN q9 = W2.drewN m := by obtain ⟨q, rfl⟩ := hS; exact ⟨q + q9, World.drewN_drewN ..⟩
          refine hK _ _ hS1 ?_
          clear hK K hS
          have hS := hS1
          clear hS1
          generalize V.drewN q9 = V at hS ⊢
          try simp only [Act.put, List.setIfInBounds_toArray, List.set_cons_zero, List.set_cons_succ]
          refine wpOrd_step rfl (fun K hK => ⟨by rfl, ?_⟩)
          go_simp
          go_at_call 113
          refine (R19.out _).mono ?_
          rintro e w1 ⟨rfl, q9, rfl⟩
          have hS1 : ∃ m, V.drewN q9 = W2.drewN m := by obtain ⟨q, rfl⟩ := hS; exact ⟨q + q9, World.drewN_drewN ..⟩
          refine hK _ _ hS1 ?_
          clear hK K hS
          have hS := hS1
          clear hS1
          generalize V.drewN q9 = V at hS ⊢
          try simp only [Act.put, List.setIfInBounds_toArray, List.set_cons_zero, List.set_cons_succ]
          iterate 4
            refine wpOrd_take (v := ?_) rfl (by rfl) (fun w hSw => ?_) ?_
            rotate_left 1
            · obtain ⟨_, rfl⟩ := hSw
              go_simp
              with_reducible rfl
            simp only [Act.put, List.setIfInBounds_toArray, List.set_cons_zero, List.set_cons_succ]
          refine wpOrd_nil ?_
          simp only [List.drop_succ_cons, List.drop_zero]
          obtain ⟨m, rfl⟩ := hS
          have hf := HF.out m
          obtain ⟨v0, hv0⟩ := HV.out m
          clear s1 s2 s3 s4 s5 s6 s7 s8 s11 s12
          go_wp2_with fail
          go_roundg (gk - 1)
          case measure => omega
          case rel =>
            refine ⟨k + 1, by go_num, by omega, by omega, ?_⟩
            rw [xor_n, xor_n, xor_n, xor_n, add_n4]
            exact HP.out m
        · obtain rfl : k = 64 := by omega
          have hsc : Wd w0 wr (sched blk 48) := hR
          clear hR
          have hn := fun w => refnumbers_any w
          have HN := Lib.hid hn
          have HSC := Lib.hid hsc
          clear hn hsc
          have hst := fun W => store64 W
          obtain ⟨wo, rfl⟩ : ∃ wo : World, wo = wr := ⟨_, rfl⟩
          go_upto_region 13 with (go_at_call 114; (with_reducible refine (HN.out _).mono ?_); rintro e w1 ⟨rfl, hb1⟩)
          clear hst
          have hT : Row (w1.alloc (.cells (numbersL.map u).toArray 158)) w1.heap.size 158 (numbersL.map u) := Row.new w1 _ _
          have hB1 : Below wo.heap.size wo (w1.alloc (.cells (numbersL.map u).toArray 158)) := hb1.alloc hb1.size _
          have hzk : wo.heap.size ≤ w1.heap.size := hb1.size
          generalize w1.alloc (.cells (numbersL.map u).toArray 158) = W1 at *
          generalize w1.heap.size = kb at *
          have hzo := HSC.out.size
          have hS1 : Row W1 w.heap.size 144 (s.list.map u) := Row.keep (Row.keep HS.out (HSC.out.below.block _ (by have := HZ.out; omega))) (hB1.block _ (by have := HZ.out; omega))
          obtain ⟨c0, c1, c2, c3, c4, c5, c6, c7⟩ := st8 hS1
          have HT := Lib.hid hT
          have HB1 := Lib.hid hB1
          have HS1 := Lib.hid hS1
          clear hT hB1 hS1 hb1 hzo
          generalize Value.agg (numbersL.map u).toArray = v78 at *
          go_quiet (fail)
          clear c0 c1 c2 c3 c4 c5 c6 c7
          go_wp2_with fail
          obtain ⟨V0, rfl⟩ : ∃ V0 : World, V0 = W1.drewN nq := ⟨_, rfl⟩
          go_loopg [11, 12, 13, 14, 15, 16, 17, 18, 19] 64 (fun gk a b c d e f g h i wx => (∃ m, wx = W1.drewN m) ∧ ∃ k : Nat, i = .int .i64 k ∧ k + gk = 64 ∧ a = u (rounds s (sched blk 48) k).a ∧ b = u (rounds s (sched blk 48) k).b ∧ c = u (rounds s (sched blk 48) k).c ∧ d = u (rounds s (sched blk 48) k).d ∧ e = u (rounds s (sched blk 48) k).e ∧ f = u (rounds s (sched blk 48) k).f ∧ g = u (rounds s (sched blk 48) k).g ∧ h = u (rounds s (sched blk 48) k).h)
          case atStart => exact ⟨⟨_, rfl⟩, 0, rfl, rfl, rfl, rfl, rfl, rfl, rfl, rfl, rfl, rfl⟩
          case round =>
            obtain ⟨⟨m, rfl⟩, k, rfl, hk, rfl, rfl, rfl, rfl, rfl, rfl, rfl, rfl⟩ := hrel
            by_cases hlt : k < 64
            · have cw : (W1.drewN m).cell? ⟨w0.heap.size, k, none⟩ = some (u ((sched blk 48).getD k 0)) := (HB1.out.cell (p := ⟨w0.heap.size, k, none⟩) (by have := HSC.out.size; simp only []; omega)).trans (HSC.out.get (by rw [sched_length]; omega))
              have cn : (W1.drewN m).cell? ⟨kb, k, none⟩ = some (u (numbersL.getD k 0)) := num_at HT.out hlt
              have hnext : rounds s (sched blk 48) (k + 1) = round (rounds s (sched blk 48) k) (numbersL.getD k 0) ((sched blk 48).getD k 0) := rfl
              obtain ⟨K, hK⟩ : ∃ K, numbersL.getD k 0 = K := ⟨_, rfl⟩
              obtain ⟨X, hX⟩ : ∃ X, (sched blk 48).getD k 0 = X := ⟨_, rfl⟩
              obtain ⟨t, ht⟩ : ∃ t, rounds s (sched blk 48) k = t := ⟨_, rfl⟩
              rw [hK] at cn hnext
              rw [hX] at cw hnext
              rw [ht] at hnext ⊢
              have HN := Lib.hid hnext
              obtain ⟨ta, tb, tc, td, te, tf, tg, th⟩ := t
              simp only []
              clear hK hX ht hnext
              have r6 := fun w => ror_6 te w
              have r11 := fun w => ror_11 te w
              have r25 := fun w => ror_25 te w
              have r2 := fun w => ror_2 ta w
              have r13 := fun w => ror_13 ta w
              have r22 := fun w => ror_22 ta w
              unfold u at cw cn r6 r11 r25 r2 r13 r22 ⊢
              have R6 := Lib.hid r6
              have R11 := Lib.hid r11
              have R25 := Lib.hid r25
              have R2 := Lib.hid r2
              have R13 := Lib.hid r13
              have R22 := Lib.hid r22
              clear r6 r11 r25 r2 r13 r22
              have hV : ∃ m', W1.drewN m = W1.drewN m' := ⟨_, rfl⟩
              generalize W1.drewN m = V at *
              have s9 : (0 : Int) ≤ k := by omega
              have s10 : (k : Int) < 64 := by omega
              go_wp2_with fail
              go_quiet ((first | (go_at_call 113; with_reducible exact Calls.quiet_of (R6.out _)) | (go_at_call 113; with_reducible exact Calls.quiet_of (R11.out _)) | (go_at_call 113; with_reducible exact Calls.quiet_of (R25.out _))))
              rw [not_if, xor_n, xor_n, and_n, and_n, xor_n, add_n4, add_n]
              clear cw cn s9 s10 R6 R11 R25
              generalize te_p : th + (rr te 6 ^^^ rr te 11 ^^^ rr te 25) + ((te &&& tf) ^^^ (~~~te &&& tg)) + K + X = p
              have HPp := Lib.hid te_p
              have hV2 : ∃ m', V.drewN nq = W1.drewN m' := by obtain ⟨q, rfl⟩ := hV; exact ⟨q + nq, World.drewN_drewN ..⟩
              clear te_p hV
              generalize V.drewN nq = V2 at *
              go_wp2_with (first
                | (go_at_call 113; (with_reducible refine (R2.out _).mono ?_); rintro e w1 ⟨rfl, q1, rfl⟩)
                | (go_at_call 113; (with_reducible refine (R13.out _).mono ?_); rintro e w1 ⟨rfl, q2, rfl⟩)
                | (go_at_call 113; (with_reducible refine (R22.out _).mono ?_); rintro e w1 ⟨rfl, q3, rfl⟩))
              have hE : round ⟨ta, tb, tc, td, te, tf, tg, th⟩ K X = ⟨p + ((rr ta 2 ^^^ rr ta 13 ^^^ rr ta 22) + ((ta &&& tb) ^^^ (ta &&& tc) ^^^ (tb &&& tc))), ta, tb, tc, td + p, te, tf, tg⟩ := by rw [← HPp.out, ch_ref, maj_ref]; rfl
              rw [xor_n, xor_n, and_n, and_n, and_n, xor_n, xor_n, add_n, add_n, add_n]
              generalize p + ((rr ta 2 ^^^ rr ta 13 ^^^ rr ta 22) + ((ta &&& tb) ^^^ (ta &&& tc) ^^^ (tb &&& tc))) = y at *
              rw [hE] at HN
              have hV3 : ∃ m', V2.drewN (q1 + q2 + q3) = W1.drewN m' := by obtain ⟨q, rfl⟩ := hV2; exact ⟨_, World.drewN_drewN ..⟩
              go_roundg (gk - 1)
              case measure => omega
              case rel => exact ⟨hV3, k + 1, by go_num, by omega, by rw [HN.out]; rfl, by rw [HN.out]; rfl, by rw [HN.out]; rfl, by rw [HN.out]; rfl, by rw [HN.out]; rfl, by rw [HN.out]; rfl, by rw [HN.out]; rfl, by rw [HN.out]; rfl⟩
            · obtain rfl : k = 64 := by omega
              have hab : absorb s blk = s.add (rounds s (sched blk 48) 64) := rfl
              generalize rounds s (sched blk 48) 64 = t at *
              have HAB := Lib.hid hab
              clear hab
              have hS5 : Row (W1.drewN m) w.heap.size 144 (s.list.map u) := HS1.out
              have hR5 : Row (W1.drewN m) (w.heap.size + 1) 144 (List.replicate 8 (.int .u32 0)) := Row.keep (Row.keep HR.out (HSC.out.below.block _ (by have := HZ.out; omega))) (HB1.out.block _ (by have := HZ.out; have := HSC.out.size; omega))
              have hB5 : Below w.heap.size w (W1.drewN m) := by
                have h1 := HB0.out.trans (HSC.out.below.mono (by have := HZ.out; omega))
                have h2 := h1.trans (HB1.out.mono (by have := HSC.out.size; have := HZ.out; omega))
                exact ⟨h2.os, h2.tape, h2.output, h2.size, h2.block⟩
              obtain ⟨c0, c1, c2, c3, c4, c5, c6, c7⟩ := st8 hS5
              have f0 := Row.frozen hR5 0
              have f1 := Row.frozen hR5 1
              have f2 := Row.frozen hR5 2
              have f3 := Row.frozen hR5 3
              have f4 := Row.frozen hR5 4
              have f5 := Row.frozen hR5 5
              have f6 := Row.frozen hR5 6
              have f7 := Row.frozen hR5 7
              have d0 : (W1.drewN m).cell? ⟨w.heap.size + 1, 0, none⟩ = some (.int .u32 0) := Row.cell hR5 0
              have d1 : (W1.drewN m).cell? ⟨w.heap.size + 1, 1, none⟩ = some (.int .u32 0) := Row.cell hR5 1
              have d2 : (W1.drewN m).cell? ⟨w.heap.size + 1, 2, none⟩ = some (.int .u32 0) := Row.cell hR5 2
              have d3 : (W1.drewN m).cell? ⟨w.heap.size + 1, 3, none⟩ = some (.int .u32 0) := Row.cell hR5 3
              have d4 : (W1.drewN m).cell? ⟨w.heap.size + 1, 4, none⟩ = some (.int .u32 0) := Row.cell hR5 4
              have d5 : (W1.drewN m).cell? ⟨w.heap.size + 1, 5, none⟩ = some (.int .u32 0) := Row.cell hR5 5
              have d6 : (W1.drewN m).cell? ⟨w.heap.size + 1, 6, none⟩ = some (.int .u32 0) := Row.cell hR5 6
              have d7 : (W1.drewN m).cell? ⟨w.heap.size + 1, 7, none⟩ = some (.int .u32 0) := Row.cell hR5 7
              generalize W1.drewN m = V at *
              have HR5 := Lib.hid hR5
              have HB5 := Lib.hid hB5
              clear hS5 hR5 hB5
              unfold u
              go_wp2_with fail
              rw [add_n, add_n, add_n, add_n, add_n, add_n, add_n, add_n]
              have hRf : Row ((((((((V.setCell ⟨w.heap.size + 1, 0, none⟩ (.int .u32 (un (s.a + t.a)))).setCell ⟨w.heap.size + 1, 1, none⟩ (.int .u32 (un (s.b + t.b)))).setCell ⟨w.heap.size + 1, 2, none⟩ (.int .u32 (un (s.c + t.c)))).setCell ⟨w.heap.size + 1, 3, none⟩ (.int .u32 (un (s.d + t.d)))).setCell ⟨w.heap.size + 1, 4, none⟩ (.int .u32 (un (s.e + t.e)))).setCell ⟨w.heap.size + 1, 5, none⟩ (.int .u32 (un (s.f + t.f)))).setCell ⟨w.heap.size + 1, 6, none⟩ (.int .u32 (un (s.g + t.g)))).setCell ⟨w.heap.size + 1, 7, none⟩ (.int .u32 (un (s.h + t.h)))) (w.heap.size + 1) 144 ((s.add t).list.map u) := (Row.store (Row.store (Row.store (Row.store (Row.store (Row.store (Row.store (Row.store HR5.out 0 _) 1 _) 2 _) 3 _) 4 _) 5 _) 6 _) 7 _)
              have hBf : Below w.heap.size w ((((((((V.setCell ⟨w.heap.size + 1, 0, none⟩ (.int .u32 (un (s.a + t.a)))).setCell ⟨w.heap.size + 1, 1, none⟩ (.int .u32 (un (s.b + t.b)))).setCell ⟨w.heap.size + 1, 2, none⟩ (.int .u32 (un (s.c + t.c)))).setCell ⟨w.heap.size + 1, 3, none⟩ (.int .u32 (un (s.d + t.d)))).setCell ⟨w.heap.size + 1, 4, none⟩ (.int .u32 (un (s.e + t.e)))).setCell ⟨w.heap.size + 1, 5, none⟩ (.int .u32 (un (s.f + t.f)))).setCell ⟨w.heap.size + 1, 6, none⟩ (.int .u32 (un (s.g + t.g)))).setCell ⟨w.heap.size + 1, 7, none⟩ (.int .u32 (un (s.h + t.h)))) := ((((((((HB5.out.setCell (by simp only []; omega) _).setCell (by simp only []; omega) _).setCell (by simp only []; omega) _).setCell (by simp only []; omega) _).setCell (by simp only []; omega) _).setCell (by simp only []; omega) _).setCell (by simp only []; omega) _).setCell (by simp only []; omega) _)
              generalize ((((((((V.setCell ⟨w.heap.size + 1, 0, none⟩ (.int .u32 (un (s.a + t.a)))).setCell ⟨w.heap.size + 1, 1, none⟩ (.int .u32 (un (s.b + t.b)))).setCell ⟨w.heap.size + 1, 2, none⟩ (.int .u32 (un (s.c + t.c)))).setCell ⟨w.heap.size + 1, 3, none⟩ (.int .u32 (un (s.d + t.d)))).setCell ⟨w.heap.size + 1, 4, none⟩ (.int .u32 (un (s.e + t.e)))).setCell ⟨w.heap.size + 1, 5, none⟩ (.int .u32 (un (s.f + t.f)))).setCell ⟨w.heap.size + 1, 6, none⟩ (.int .u32 (un (s.g + t.g)))).setCell ⟨w.heap.size + 1, 7, none⟩ (.int .u32 (un (s.h + t.h)))) = Vf at *
              have hinf : (Tryz.prog.info? 144).map (·.size) = some 8 := by kernel_rfl
              exact bodyPost_ret (v := .agg ((s.add t).list.map u).toArray) (results_cell_row (g := w.heap.size + 1) (t := 144) (fr := (0, 0)) rfl _ Vf _ _ rfl hRf Tryz.underlying144 rfl (by rw [hinf]; rfl)) rfl ⟨by rw [HAB.out], hBf⟩
end Go.Proofs.YthboebhghaabnaaGreatDoor

namespace Go.Proofs.YthboebhghaabnaaGreatDoor
open Go.RowKit Fk Sha
/-! The reference's end of the bytes. -/
/-- one byte more, out of a block of one cell -/
theorem one_slB (w : World) (c : B) (z : Value) (hz : z = bv c) (g : Nat) (hg : g = w.heap.size) : SlB (w.alloc (.cells #[z] 5)) (w.heap.size + 1) (.slice (some ⟨g, 0, none⟩) 1 1) [c] ∧ capB (.slice (some ⟨g, 0, none⟩) 1 1) := by
  subst hg
  subst hz
  refine ⟨?_, _, _, _, rfl, Nat.le_refl _, by omega, fun h => by cases h⟩
  exact Row.sl (c := 1) (m := 1) (enc := encB) (l := [c]) (Row.new w _ _) (fun _ => rfl) (by simp) (Nat.lt_succ_self _)
theorem own_emptyB (W : World) : (W.alloc (.cells #[] 5)).ownsRow W.heap.size 5 1 (.slice (some ⟨W.heap.size, 0, none⟩) 0 0) 0 (([] : List B).map bv) :=
  ⟨rfl, .inr ⟨W.heap.size, 0, #[], rfl, Nat.le_refl _, Row.new W _ [], Nat.le_refl _, by unfold maxLen; omega, rfl, rfl⟩⟩
theorem zeros_le (n : Nat) : zeros n ≤ 63 := by unfold zeros; omega
theorem zeros_no {n j : Nat} (h : j < zeros n) : (n + 1 + j) % 64 ≠ 56 := by unfold zeros at h; omega
theorem zeros_yes (n : Nat) : (n + 1 + zeros n) % 64 = 56 := by unfold zeros; omega
set_option maxRecDepth 100000 in
set_option maxHeartbeats 4000000 in
theorem padded_any (l : List B) (v : Value) (w : World) (h : SlB w w.heap.size v l) (hc : capB v) (hl : l.length ≤ 1099511627776) :
    Calls Tryz.prog 109 #[v] w fun e w' => ∃ v', e = .returned v' ∧ SlB w' w'.heap.size v' (padL l) ∧ capB v' ∧ (∀ a n c, v' = .slice (some a) n c → w.heap.size ≤ a.block) ∧ Below w.heap.size w w' := by
  have HS := Lib.hid h
  have HC := Lib.hid hc
  obtain ⟨A, n, c, rfl, _⟩ := hc
  obtain rfl : n = l.length := by obtain ⟨_, _, _, hv, _⟩ := h; injection hv
  clear h
  go_enter Tryz.func109, Tryz.ntmps109
  have HO := Lib.hid (own_emptyB w)
  have HE := Lib.hid (HS.out.below ((Below.refl w.heap.size w).alloc (Nat.le_refl _) (.cells #[] 5)))
  go_upto_region 2 with (first
    | (at_builtin; refine wpList_app rfl _ _ rfl w.heap.size _ 0 [] rfl HO.out _ rfl l _ HE.out HC.out (by omega) (by simp) ?_; intro v1 w2 hown2 hg2)
    | (at_builtin; refine wpList_app rfl _ _ rfl w.heap.size v1 (0 + l.length) ([] ++ l) rfl (hown2.alloc _) _ rfl [0x80#8] _ (one_slB w2 0x80#8 _ rfl _ rfl).1 (one_slB w2 0x80#8 _ rfl _ rfl).2 (by simp; omega) (by have := hg2.size; simp at this ⊢; omega) ?_; intro v2 w3 hown3 hg3))
  have hB2 : Below w.heap.size w w2 := ((Below.refl w.heap.size w).alloc (Nat.le_refl _) _).grown hg2 (by simp) (fun r e => by cases e; exact Nat.le_refl _)
  have hB3 : Below w.heap.size w w3 := (hB2.alloc hB2.size _).grown hg3 (by have := hB2.size; simp; omega) (fun r e => (hown2.lt r e).1)
  have hw3 : w3.ownsRow w.heap.size 5 1 v2 (l.length + 1 + 0) ((l ++ 0x80#8 :: List.replicate 0 0#8).map bv) := by simpa using hown3
  clear HO HE hown2 hg2 hown3 hg3 hB2
  go_loopg [3] (zeros l.length) (fun gk v wr => ∃ j : Nat, j + gk = zeros l.length ∧ wr.ownsRow w.heap.size 5 1 v (l.length + 1 + j) ((l ++ 0x80#8 :: List.replicate j 0#8).map bv) ∧ Below w.heap.size w wr)
  case atStart => exact ⟨0, by omega, hw3, hB3⟩
  case round =>
    clear hw3 hB3
    obtain ⟨j, hj, hown, hB⟩ := hrel
    have hz63 := zeros_le l.length
    obtain ⟨_, A', N, C, rfl, hNC, hC, _⟩ := own_slB hown (by simp; omega) (by simp; omega)
    obtain rfl : N = l.length + 1 + j := by
      rcases hown.2 with ⟨e, h0⟩ | ⟨g, cap, cur, e, _⟩
      · cases e; omega
      · injection e
    by_cases hlt : j < zeros l.length
    · have hno : (((l.length + 1 + j : Nat) : Int) % 64 != 56) = true := by
        have := zeros_no hlt
        rw [bne_iff_ne]; omega
      have HO := Lib.hid hown
      have HB := Lib.hid hB
      have hsz := hB.size
      have hon := one_slB wr 0#8 (.int .u8 0) rfl wr.heap.size rfl
      have HN := Lib.hid hon
      clear hown hB hon
      obtain ⟨M, hM⟩ : ∃ M, l.length + 1 + j = M := ⟨_, rfl⟩
      rw [hM] at hno HO
      rw [hM]
      have HM := Lib.hid hM
      have hMb : M ≤ 1099511627841 := by omega
      clear hM
      go_wp2_with (at_builtin; refine wpList_app rfl _ _ rfl w.heap.size _ M _ rfl (HO.out.alloc _) _ rfl [0#8] _ HN.out.1 HN.out.2 (by simp; omega) (by simp; omega) ?_; intro v3 w4 hown3 hg3)
      go_roundg (gk - 1)
      case measure => omega
      case rel =>
        refine ⟨j + 1, by omega, ?_, (HB.out.alloc hsz _).grown hg3 (by simp; omega) (fun r e => (HO.out.lt r e).1)⟩
        have e1 : l ++ 0x80#8 :: List.replicate (j + 1) 0#8 = (l ++ 0x80#8 :: List.replicate j 0#8) ++ [0#8] := by rw [List.append_assoc, List.cons_append, List.replicate_succ']
        rw [e1, ← Nat.add_assoc, HM.out]
        exact hown3
    · obtain rfl : j = zeros l.length := by omega
      have hyes : (((l.length + 1 + zeros l.length : Nat) : Int) % 64 != 56) = false := by
        have := zeros_yes l.length
        rw [bne_eq_false_iff_eq]; omega
      have HO := Lib.hid hown
      have HB := Lib.hid hB
      clear hown hB
      obtain ⟨M, hM⟩ : ∃ M, l.length + 1 + zeros l.length = M := ⟨_, rfl⟩
      rw [hM] at hyes HO
      rw [hM]
      have HM := Lib.hid hM
      have hMb : M ≤ 1099511627841 := by omega
      clear hM hz63
      have hl8 : (0 : Int) ≤ (l.length : Int) * 8 := by omega
      go_wp2_with fail
      have hx : 8 * l.length % 2 ^ 64 = l.length * 8 := by rw [Nat.mod_eq_of_lt (by omega)]; omega
      have hpad : padL l = (l ++ 0x80#8 :: List.replicate (zeros l.length) 0#8) ++ be 8 (l.length * 8) := by unfold padL; rw [hx, List.append_assoc, List.cons_append]
      have HPAD := Lib.hid hpad
      clear hx hpad
      generalize (l ++ 0x80#8 :: List.replicate (zeros l.length) 0#8) = L0 at *
      have hstart : wr.ownsRow w.heap.size 5 1 (.slice A' M C) (M + 0) ((L0 ++ (be 8 (l.length * 8)).take 0).map bv) := by rw [List.take_zero, List.append_nil]; exact HO.out
      have hB0 := HB.out
      clear HO HB
      go_loopg [3, 5] 8 (fun gk v i wr => ∃ k : Nat, i = .int .i64 (7 - (k : Int)) ∧ k + gk = 8 ∧ wr.ownsRow w.heap.size 5 1 v (M + k) ((L0 ++ (be 8 (l.length * 8)).take k).map bv) ∧ Below w.heap.size w wr)
      case atStart => exact ⟨0, rfl, rfl, hstart, hB0⟩
      case round =>
        clear hstart hB0
        obtain ⟨k, rfl, hk, hown, hB⟩ := hrel
        by_cases hlt : k < 8
        · obtain ⟨i, hi⟩ : ∃ i : Nat, (7 : Int) - k = i := ⟨7 - k, by omega⟩
          have hi2 : i = 7 - k := by omega
          rw [hi]
          have hbe : (be 8 (l.length * 8)).take (k + 1) = (be 8 (l.length * 8)).take k ++ [BitVec.ofNat 8 (l.length * 8 / 2 ^ (8 * i))] := by
            rw [List.take_succ_eq_append_getElem (by rw [be_length]; exact hlt)]
            have := be_getD (n := 8) (x := l.length * 8) hlt
            rw [List.getElem?_eq_getElem (by rw [be_length]; exact hlt)] at this
            rw [Option.some.inj this, hi2, show 8 - 1 - k = 7 - k by omega]
          have hz : Value.int .u8 ((l.length : Int) * 8 / 2 ^ (8 * i) % 256) = bv (BitVec.ofNat 8 (l.length * 8 / 2 ^ (8 * i))) := by
            unfold bv bn
            rw [BitVec.toNat_ofNat, Int.natCast_emod, Int.natCast_ediv, Int.natCast_pow, Int.natCast_mul]
            rfl
          have hx1 : (l.length : Int) * 8 < 18446744073709551616 := by omega
          generalize (l.length : Int) * 8 = X at *
          have hon := one_slB wr _ _ hz wr.heap.size rfl
          have hsz := hB.size
          have HO := Lib.hid hown
          have HB := Lib.hid hB
          have HN := Lib.hid hon
          have HBE := Lib.hid hbe
          have HI := Lib.hid hi
          have hib : i < 8 := by omega
          clear hown hB hon hbe hi hi2 hz
          go_wp2_with (at_builtin; refine wpList_app rfl _ _ rfl w.heap.size _ (M + k) _ rfl (HO.out.alloc _) _ rfl [BitVec.ofNat 8 (l.length * 8 / 2 ^ (8 * i))] _ HN.out.1 HN.out.2 (by simp; omega) (by simp; omega) ?_; intro v3 w4 hown3 hg3)
          go_roundg (gk - 1)
          case measure => omega
          case rel =>
            refine ⟨k + 1, ?_, by omega, ?_, (HB.out.alloc hsz _).grown hg3 (by simp; omega) (fun r e => (HO.out.lt r e).1)⟩
            · rw [← HI.out]; congr 1; omega
            · rw [HBE.out, ← List.append_assoc]
              exact hown3
        · obtain rfl : k = 8 := by omega
          rw [List.take_of_length_le (by rw [be_length]; omega), ← HPAD.out] at hown
          obtain ⟨q1, q2⟩ := own_slB hown (by rw [padL_length]; have := HM.out; omega) (by rw [padL_length]; have := zeros_le l.length; omega)
          have q3 : ∀ a n c, u3 = .slice (some a) n c → w.heap.size ≤ a.block := fun a n c h => (hown.lt a.block (by rw [h]; rfl)).1
          have Q3 := Lib.hid q3
          have Q1 := Lib.hid q1
          have Q2 := Lib.hid q2
          have HB := Lib.hid hB
          clear hown hB q1 q2 q3
          go_wp2_with fail
          go_ret
          exact ⟨_, rfl, Q1.out, Q2.out, Q3.out, HB.out⟩
end Go.Proofs.YthboebhghaabnaaGreatDoor
