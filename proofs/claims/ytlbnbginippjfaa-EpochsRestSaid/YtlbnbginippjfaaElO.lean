import Derived.Test.YtlbnbginippjfaaElP
import Derived.Test.YtlbnbginippjfaaChecked
import Derived.OpenShut
import Derived.ChangeSlices
import Derived.ChangeSame
import Derived.Carry
namespace Go.Proofs.Ytlbnbginippjfaa
open Go.RowKit Go.WideShapes Go.ChangeShapes Fk
section
variable {H : Type} {enc : TypeId × Value → H} {P : Program} {w : World} {base base' : Nat} {r : Reach} {sp : Nat → Bool} {held : Bool}
theorem okWide_array {t e : TypeId} {n : Nat} {v : Value} (ht : P.underlying t = some (.array n e)) (h : Value.okWide P w r base t v) : ∃ cs, v = .agg cs ∧ cs.size = P.cellsOf t := by
  simp only [Value.okWide, ht] at h
  obtain ⟨cs, h1, h2, _⟩ := h
  exact ⟨cs, h1, h2⟩
theorem three_of {cs : Array Value} (h : cs.size = 3) : ∃ a b c, cs = #[a, b, c] := by
  obtain ⟨l⟩ := cs
  match l, h with
  | [a, b, c], _ => exact ⟨a, b, c, rfl⟩
theorem six_of {cs : Array Value} (h : cs.size = 6) : ∃ a b c d e f, cs = #[a, b, c, d, e, f] := by
  obtain ⟨l⟩ := cs
  match l, h with
  | [a, b, c, d, e, f], _ => exact ⟨a, b, c, d, e, f, rfl⟩
theorem some_at {α : Type} {l : List α} {n i : Nat} (h : l.length = n) (hi : i < n) : ∃ x, l[i]? = some x := ⟨l[i]'(by omega), List.getElem?_eq_getElem (by omega)⟩
/-- an array of three integers -/
theorem open_tri {t e : TypeId} {k : IntKind} {v : Value} {d : DataW H} {p : List MemPlace} (ht : P.underlying t = some (.array 3 e)) (he : P.underlying e = some (.int k)) (hc : P.cellsOf t = 3) (hce : P.cellsOf e = 1)
    (hv : Value.okWide P w r base t v) (h : DataW.Trod enc P w base' sp held t v d p) :
    ∃ a b c : Int, v = .agg #[.int k a, .int k b, .int k c] ∧ (Lit.int k a).wf = true ∧ (Lit.int k b).wf = true ∧ (Lit.int k c).wf = true := by
  obtain ⟨cs, rfl, hs⟩ := okWide_array ht hv
  obtain ⟨x0, x1, x2, rfl⟩ := three_of (hs.trans hc)
  obtain ⟨fuel, hf⟩ := h
  obtain ⟨xs, m, _, _, _, hl, hi⟩ := DataW.trod_array ht hf
  simp only [hce, Nat.mul_one] at hi
  obtain ⟨y0, g0⟩ := some_at hl (show 0 < 3 by omega)
  obtain ⟨y1, g1⟩ := some_at hl (show 1 < 3 by omega)
  obtain ⟨y2, g2⟩ := some_at hl (show 2 < 3 by omega)
  obtain ⟨a, e0, _, w0⟩ := DataW.trod_int he ((hi 0 (by omega)).trans g0)
  obtain ⟨b, e1, _, w1⟩ := DataW.trod_int he ((hi 1 (by omega)).trans g1)
  obtain ⟨c, e2, _, w2⟩ := DataW.trod_int he ((hi 2 (by omega)).trans g2)
  simp [Value.cells] at e0 e1 e2
  subst e0 e1 e2
  exact ⟨a, b, c, rfl, w0, w1, w2⟩
/-- an array of three structs of two integers -/
theorem open_six {t e i : TypeId} {fs : Array Field} {v : Value} {d : DataW H} {p : List MemPlace} (ht : P.underlying t = some (.array 3 e)) (he : P.underlying e = some (.struct fs)) (hc : P.cellsOf t = 6) (hce : P.cellsOf e = 2)
    (hi : P.underlying i = some (.int .i64)) (hci : P.cellsOf i = 1) {f0 f1 : Field} (hf0 : fs[0]? = some f0) (hf1 : fs[1]? = some f1) (h00 : f0.offset = 0) (h01 : f1.offset = 1) (ht0 : f0.type = i) (ht1 : f1.type = i)
    (hv : Value.okWide P w r base t v) (h : DataW.Trod enc P w base' sp held t v d p) :
    ∃ s : Se, v = s.val := by
  obtain ⟨cs, rfl, hs⟩ := okWide_array ht hv
  obtain ⟨x0, x1, x2, x3, x4, x5, rfl⟩ := six_of (hs.trans hc)
  obtain ⟨fuel, hf⟩ := h
  obtain ⟨xs, m, _, _, _, hl, hel⟩ := DataW.trod_array ht hf
  simp only [hce] at hel
  have key : ∀ k, k < 3 → ∃ a b : Int, (([x0, x1, x2, x3, x4, x5] : List Value).drop (k * 2)).take 2 = [.int .i64 a, .int .i64 b] := by
    intro k hk
    obtain ⟨y, g⟩ := some_at hl hk
    have h1 := (hel k hk).trans g
    obtain ⟨ys, n, _, _, hlen, hyl, hfs⟩ := DataW.trod_struct he h1
    have hfz : 1 < fs.size := (Array.getElem?_eq_some_iff.1 hf1).1
    obtain ⟨z0, g0⟩ := some_at hyl (show 0 < fs.size by omega)
    obtain ⟨z1, g1⟩ := some_at hyl hfz
    have a0 := (hfs 0 f0 hf0).trans g0
    have a1 := (hfs 1 f1 hf1).trans g1
    rw [h00, ht0, hci] at a0
    rw [h01, ht1, hci] at a1
    obtain ⟨a, e0, _, _⟩ := DataW.trod_int hi a0
    obtain ⟨b, e1, _, _⟩ := DataW.trod_int hi a1
    refine ⟨a, b, ?_⟩
    simp only [Value.cells] at e0 e1
    rcases (show k = 0 ∨ k = 1 ∨ k = 2 by omega) with rfl | rfl | rfl <;> (simp at e0 e1 ⊢; exact ⟨e0, e1⟩)
  obtain ⟨a0, b0, k0⟩ := key 0 (by omega)
  obtain ⟨a1, b1, k1⟩ := key 1 (by omega)
  obtain ⟨a2, b2, k2⟩ := key 2 (by omega)
  simp at k0 k1 k2
  obtain ⟨rfl, rfl⟩ := k0
  obtain ⟨rfl, rfl⟩ := k1
  obtain ⟨rfl, rfl⟩ := k2
  exact ⟨⟨⟨a0, b0⟩, ⟨a1, b1⟩, ⟨a2, b2⟩⟩, rfl⟩
end
section
variable {H : Type} {enc : TypeId × Value → H} {w : World} {base : Nat} {r : Reach}
def wfT (t : Tr) : Prop := ((Lit.int .i64 t.p).wf = true ∧ (Lit.int .i64 t.q).wf = true ∧ (Lit.int .i64 t.r).wf = true)
theorem open_words {v : Value} {d : DataW H} {p : List MemPlace} (hv : Value.okWide Try.prog w r base 30 v) (h : DataW.Trod enc Try.prog w 0 (fun _ => true) true 30 v d p) : ∃ t : Tr, v = t.val ∧ wfT t := by
  obtain ⟨a, b, c, rfl, h1, h2, h3⟩ := open_tri Try.underlying30 Try.underlying3 (by kernel_rfl) (by kernel_rfl) hv h
  exact ⟨⟨a, b, c⟩, rfl, h1, h2, h3⟩
theorem open_three {v : Value} {d : DataW H} {p : List MemPlace} (hv : Value.okWide Try.prog w r base 29 v) (h : DataW.Trod enc Try.prog w 0 (fun _ => true) true 29 v d p) : ∃ t : Tr, v = t.val ∧ wfT t := by
  obtain ⟨a, b, c, rfl, h1, h2, h3⟩ := open_tri Try.underlying29 Try.underlying3 (by kernel_rfl) (by kernel_rfl) hv h
  exact ⟨⟨a, b, c⟩, rfl, h1, h2, h3⟩
theorem open_sealed {v : Value} {d : DataW H} {p : List MemPlace} (hv : Value.okWide Try.prog w r base 34 v) (h : DataW.Trod enc Try.prog w 0 (fun _ => true) true 34 v d p) : ∃ s : Se, v = s.val ∧ True := by
  obtain ⟨s, hs⟩ := open_six Try.underlying34 Try.underlying32 (by kernel_rfl) (by kernel_rfl) Try.underlying3 (by kernel_rfl) rfl rfl rfl rfl rfl rfl hv h
  exact ⟨s, hs, trivial⟩
end
end Go.Proofs.Ytlbnbginippjfaa
