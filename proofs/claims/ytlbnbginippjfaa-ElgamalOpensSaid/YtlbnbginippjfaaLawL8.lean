import Derived.Test.YtlbnbginippjfaaLawL7
import Derived.Test.YtlbnbginippjfaaOpenG
import Derived.Test.YtlbnbginippjfaaElO
set_option linter.unusedSimpArgs false
set_option linter.unusedVariables false
namespace Go.Proofs.Ytlbnbginippjfaa
open Go.RowKit Go.WideShapes Go.ChangeShapes Go.Deep Fk
set_option maxRecDepth 100000 in
set_option maxHeartbeats 2000000 in
theorem opens_no (l : List Int) (A0 : Option Addr) (c : Nat) (t r : Tr) (n3 : Nat) (A3 : Option Addr) (c3 : Nat) (v4 : Value) (w : World) (h : SlI w w.heap.size (.slice A0 l.length c) l) (hok : rightB l = false) :
    Calls Try.prog 5 #[.slice A0 l.length c, t.val, r.val, .slice A3 n3 c3, v4] w fun e w' => e = .returned (.bool true) ∧ Below w.heap.size w w' := by
  have HS := Lib.hid h
  have c1 := fun (W : World) (B0 : Nat) (h : SlI W B0 (.slice A0 l.length c) l) => right_any l _ W B0 h
  rw [hok] at c1
  have H1 := Lib.hid c1
  clear c1 h hok
  unfold Tr.val
  go_enter Try.func5, Try.ntmps5
  go_wp2_with (first
    | (go_at_call 11; (with_reducible refine (sane10 _).mono ?_); rintro e w1 ⟨rfl, hb⟩; obtain ⟨hB, hz, p0, p1⟩ := stepP2 hb; clear hb; obtain ⟨q0, q1, q2⟩ := st3 p0)
    | (go_at_call 20; (with_reducible refine (H1.out _ _ (HS.out.below hB)).mono ?_); rintro e wq ⟨rfl, rfl⟩))
  go_ret
  exact ⟨rfl, hB⟩
set_option maxRecDepth 100000 in
set_option maxHeartbeats 2000000 in
theorem opens_words (l : List Int) (A0 : Option Addr) (c : Nat) (t r : Tr) (n3 : Nat) (A3 : Option Addr) (c3 : Nat) (v4 : Value) (w : World) (h : SlI w w.heap.size (.slice A0 l.length c) l) (hok : rightB l = true) (hw : wOK t = false) :
    Calls Try.prog 5 #[.slice A0 l.length c, t.val, r.val, .slice A3 n3 c3, v4] w fun e w' => e = .returned (.bool true) ∧ Below w.heap.size w w' := by
  have HS := Lib.hid h
  have c1 := fun (W : World) (B0 : Nat) (h : SlI W B0 (.slice A0 l.length c) l) => right_any l _ W B0 h
  rw [hok] at c1
  have H1 := Lib.hid c1
  have c2 := fun w => words_any t w
  rw [hw] at c2
  have H2 := Lib.hid c2
  clear c2 hw
  clear c1 h hok
  unfold Tr.val
  go_enter Try.func5, Try.ntmps5
  go_wp2_with (first
    | (go_at_call 11; (with_reducible refine (sane10 _).mono ?_); rintro e w1 ⟨rfl, hb⟩; obtain ⟨hB, hz, p0, p1⟩ := stepP2 hb; clear hb; obtain ⟨q0, q1, q2⟩ := st3 p0)
    | (go_at_call 20; (with_reducible refine (H1.out _ _ (HS.out.below hB)).mono ?_); rintro e wq ⟨rfl, rfl⟩)
    | (go_at_call 21; refine (H2.out _).mono ?_; rintro e w3 ⟨rfl, hb⟩; replace hB := hB.trans (hb.mono hB.size); clear hb))
  go_ret
  exact ⟨rfl, hB⟩
set_option maxRecDepth 100000 in
set_option maxHeartbeats 2000000 in
theorem opens_many (l : List Int) (A0 : Option Addr) (c : Nat) (t r : Tr) (n3 : Nat) (A3 : Option Addr) (c3 : Nat) (v4 : Value) (w : World) (h : SlI w w.heap.size (.slice A0 l.length c) l) (hok : rightB l = true) (hw : wOK t = true) (hm : 4 < n3) :
    Calls Try.prog 5 #[.slice A0 l.length c, t.val, r.val, .slice A3 n3 c3, v4] w fun e w' => e = .returned (.bool true) ∧ Below w.heap.size w w' := by
  have HS := Lib.hid h
  have c1 := fun (W : World) (B0 : Nat) (h : SlI W B0 (.slice A0 l.length c) l) => right_any l _ W B0 h
  rw [hok] at c1
  have H1 := Lib.hid c1
  have c2 := fun w => words_any t w
  rw [hw] at c2
  have H2 := Lib.hid c2
  clear c2 hw
  clear c1 h hok
  unfold Tr.val
  go_enter Try.func5, Try.ntmps5
  go_wp2_with (first
    | (go_at_call 11; (with_reducible refine (sane10 _).mono ?_); rintro e w1 ⟨rfl, hb⟩; obtain ⟨hB, hz, p0, p1⟩ := stepP2 hb; clear hb; obtain ⟨q0, q1, q2⟩ := st3 p0)
    | (go_at_call 20; (with_reducible refine (H1.out _ _ (HS.out.below hB)).mono ?_); rintro e wq ⟨rfl, rfl⟩)
    | (go_at_call 21; refine (H2.out _).mono ?_; rintro e w3 ⟨rfl, hb⟩; replace hB := hB.trans (hb.mono hB.size); clear hb))
  go_ret
  exact ⟨rfl, hB⟩
theorem elgamalOpens_walk (l : List Int) (v : Value) (t r : Tr) (m : List Tr) (v3 : Value) (o : List Int) (v4 : Value) (w : World) (h : SlI w w.heap.size v l) (h3 : SlG 3 encT w w.heap.size v3 m) (h4 : SlG 1 encU w w.heap.size v4 o) (hc : capOK v l) (_ : wfT t) (_ : wfT r) (_ : True) (ho : ∀ i, i < o.length → 0 ≤ o.getD i default ∧ o.getD i default ≤ 255) :
    Calls Try.prog 5 #[v, t.val, r.val, v3, v4] w fun e w' => e = .returned (.bool true) ∧ Below w.heap.size w w' := by
  obtain ⟨A0, c, rfl, hc1, hc2⟩ := hc
  have h3' := h3
  obtain ⟨_, A3, c3, rfl, _⟩ := h3'
  cases hok : rightB l with
  | false => exact opens_no l A0 c t r m.length A3 c3 v4 w h hok
  | true =>
    cases hw : wOK t with
    | false => exact opens_words l A0 c t r m.length A3 c3 v4 w h hok hw
    | true =>
      by_cases hm : 4 < m.length
      · exact opens_many l A0 c t r m.length A3 c3 v4 w h hok hw hm
      · have h4' := h4
        obtain ⟨_, A4, c4, rfl, _⟩ := h4'
        exact opens_main l A0 c t r m A3 c3 o A4 c4 w h hok hw hc1 hc2 h3 (by omega) h4 ho
section
variable {H : Type} {enc : TypeId × Value → H} {w : World} {base : Nat} {r : Reach}
set_option maxRecDepth 100000 in
theorem open_sl_u {v : Value} {d : DataW H} {p : List MemPlace} (hv : Value.okWide Try.prog w r base 40 v) (h : DataW.Trod enc Try.prog w 0 (fun _ => true) true 40 v d p) :
    ∃ l : List Int, SlG 1 encU w w.heap.size v l ∧ ∀ i, i < l.length → 0 ≤ l.getD i default ∧ l.getD i default ≤ 255 := by
  obtain ⟨a, len, cap, rfl⟩ := okWide_slice Try.underlying40 hv
  obtain ⟨fuel, hf⟩ := h
  rw [cells_slice] at hf
  rcases open_ints Try.underlying40 Try.underlying5 (by kernel_rfl) hf with ⟨hcs, _⟩ | ⟨a', len', cap', zs, hcs, _, hl, hm, hz, _, hcell, hwf⟩
  · obtain ⟨rfl, rfl, rfl⟩ : a = none ∧ len = 0 ∧ cap = 0 := by simpa using hcs
    exact ⟨[], SlG.nil_ _ _, fun i hi => absurd hi (by simp)⟩
  · obtain ⟨rfl, rfl, rfl⟩ : a = some a' ∧ len = len' ∧ cap = cap' := by simpa using hcs
    simp only [if_true] at hz
    refine sl_of_cells (m := 1) (en := encU) (Q := fun x => 0 ≤ x ∧ x ≤ 255) (by omega) (by unfold maxLen at hm; omega) (fun i hi => ⟨zs.getD i 0, ?_, fun j hj => ?_⟩)
    · refine bounds_u8 (hwf _ ?_)
      rw [List.getD_eq_getElem?_getD, List.getElem?_eq_getElem (by omega)]
      exact List.getElem_mem _
    · obtain rfl : j = 0 := by omega
      rw [Nat.mul_one, Nat.add_zero]
      exact hcell i (by omega)
set_option maxRecDepth 100000 in
theorem open_sl_t3 {v : Value} {d : DataW H} {p : List MemPlace} (hv : Value.okWide Try.prog w r base 39 v) (h : DataW.Trod enc Try.prog w 0 (fun _ => true) true 39 v d p) :
    ∃ l : List Tr, SlG 3 encT w w.heap.size v l ∧ True := by
  have hC : Try.prog.cellsOf 29 = 3 := by kernel_rfl
  have hce : Try.prog.cellsOf 3 = 1 := by kernel_rfl
  obtain ⟨a, len, cap, rfl⟩ := okWide_slice Try.underlying39 hv
  obtain ⟨fuel, hf⟩ := h
  rw [cells_slice] at hf
  rcases open_slice Try.underlying39 hf with h0 | ⟨a', len', cap', m, n, D, Pl, hcs, hb, hl, hm, hmm, hx, hi⟩
  · obtain ⟨rfl, rfl, rfl⟩ : a = none ∧ len = 0 ∧ cap = 0 := by simpa using h0.1
    exact ⟨[], SlG.nil_ _ _, trivial⟩
  · obtain ⟨rfl, rfl, rfl⟩ : a = some a' ∧ len = len' ∧ cap = cap' := by simpa using hcs
    have key : ∀ i, i < len → ∃ x : Tr, True ∧ ∀ j, j < 3 → w.cell? (a'.add (i * 3 + j)) = some ((encT x).getD j undef) := by
      intro i him
      obtain ⟨cs', hc, ht'⟩ := hi i (by rw [hmm]; split <;> omega)
      rw [hC] at hc
      obtain ⟨_, hcl, hat⟩ := World.cells?_some hc
      obtain ⟨xs, m2, _, _, _, hxl, hel⟩ := DataW.trod_array Try.underlying29 ht'
      simp only [hce, Nat.mul_one] at hel
      match cs', hcl, hat, hel with
      | [y0, y1, y2], _, hat, hel =>
        obtain ⟨z0, g0⟩ := some_at hxl (show 0 < 3 by omega)
        obtain ⟨z1, g1⟩ := some_at hxl (show 1 < 3 by omega)
        obtain ⟨z2, g2⟩ := some_at hxl (show 2 < 3 by omega)
        obtain ⟨x0, e0, _, _⟩ := DataW.trod_int Try.underlying3 ((hel 0 (by omega)).trans g0)
        obtain ⟨x1, e1, _, _⟩ := DataW.trod_int Try.underlying3 ((hel 1 (by omega)).trans g1)
        obtain ⟨x2, e2, _, _⟩ := DataW.trod_int Try.underlying3 ((hel 2 (by omega)).trans g2)
        simp at e0 e1 e2
        subst e0 e1 e2
        refine ⟨⟨x0, x1, x2⟩, trivial, fun j hj => ?_⟩
        rw [← Go.Deep.add_add]
        rcases (show j = 0 ∨ j = 1 ∨ j = 2 by omega) with rfl | rfl | rfl
        · exact hat (i := 0) (by omega)
        · exact hat (i := 1) (by omega)
        · exact hat (i := 2) (by omega)
    obtain ⟨l, h1, _⟩ := sl_of_cells (m := 3) (en := encT) (a := a') (len := len) (cap := cap) (w := w) (Q := fun _ => True) (by omega) (by unfold maxLen at hm; omega) key
    exact ⟨l, h1, trivial⟩
end
end Go.Proofs.Ytlbnbginippjfaa
