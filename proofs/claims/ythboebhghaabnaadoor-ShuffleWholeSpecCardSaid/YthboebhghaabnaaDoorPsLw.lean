import Derived.Test.YthboebhghaabnaaDoorPsk
set_option linter.unusedSimpArgs false
set_option linter.unusedVariables false
namespace Go.Proofs.YthboebhghaabnaaDoor
open Go.RowKit Fk Sha
/-! ShuffleWholeSpec: Whole answers as the reference does. -/
set_option maxRecDepth 100000 in
set_option maxHeartbeats 8000000 in
theorem shuffleWholeSpec_walk (bits : List Int) (v0 : Value) (l : List Og) (v1 : Value) (o : List Og) (v2 : Value) (w : World) (hT0 : Tab w) (hz0 : 1 < w.heap.size ∧ 0 < w.heap.size)
    (h0 : SlI w w.heap.size v0 bits) (h1 : SlG 36 Og.cells w w.heap.size v1 l) (h2 : SlG 36 Og.cells w w.heap.size v2 o)
    (_ : ∀ i, i < bits.length → wfI (bits.getD i default)) (_ : ∀ i, i < l.length → wfOg (l.getD i default)) (_ : ∀ i, i < o.length → wfOg (o.getD i default)) :
    Calls Tryd.prog 4 #[v0, v1, v2] w fun e w' => e = .returned (.bool true) ∧ Below w.heap.size w w' := by
  have SN := Lib.hid (sane14_any w ⟨hT0, hz0⟩)
  have P1 := Lib.hid (fun W (hb : Below w.heap.size w W) => whole_any bits l o v0 v1 v2 W ((h0.below hb).mono hb.size) ((h1.below hb).mono hb.size) ((h2.below hb).mono hb.size))
  have P2 := Lib.hid (fun W (hb : Below w.heap.size w W) => rwhole_any bits l o v0 v1 v2 W ((h0.below hb).mono hb.size) ((h1.below hb).mono hb.size) ((h2.below hb).mono hb.size))
  obtain ⟨X, hX⟩ : ∃ X, wholeC bits l o = X := ⟨_, rfl⟩
  obtain ⟨B, hB⟩ : ∃ B, wholeB bits l o = B := ⟨_, rfl⟩
  rw [hX, hB] at P1 P2
  have P3 := Lib.hid (fun W v v2 (h : SlI W W.heap.size v X) (h2 : SlI W W.heap.size v2 X) => sameints14_any X v v2 W _ (Nat.le_refl _) h h2)
  obtain ⟨_, A0, c0, rfl, _⟩ := h0
  obtain ⟨_, A1, c1, rfl, _⟩ := h1
  obtain ⟨_, A2, c2, rfl, _⟩ := h2
  clear hX hB hT0 hz0
  have hB := Below.refl w.heap.size w
  have arms : True := trivial
  by_cases f0 : (100 : Int) < bits.length
  · go_enter Tryd.func4, Tryd.ntmps4
    go_wp2_with (go_at_call 10; (with_reducible refine (SN.out).mono ?_); rintro e w1 ⟨rfl, hb⟩; replace hB := hB.trans (hb.mono hB.size); clear hb)
    go_ret
    exact ⟨rfl, hB⟩
  by_cases f1 : (100 : Int) < l.length
  · go_enter Tryd.func4, Tryd.ntmps4
    go_wp2_with (go_at_call 10; (with_reducible refine (SN.out).mono ?_); rintro e w1 ⟨rfl, hb⟩; replace hB := hB.trans (hb.mono hB.size); clear hb)
    go_ret
    exact ⟨rfl, hB⟩
  by_cases f2 : (100 : Int) < o.length
  · go_enter Tryd.func4, Tryd.ntmps4
    go_wp2_with (go_at_call 10; (with_reducible refine (SN.out).mono ?_); rintro e w1 ⟨rfl, hb⟩; replace hB := hB.trans (hb.mono hB.size); clear hb)
    go_ret
    exact ⟨rfl, hB⟩
  go_enter Tryd.func4, Tryd.ntmps4
  go_wp2_with (first
    | (go_at_call 10; (with_reducible refine (SN.out).mono ?_); rintro e w1 ⟨rfl, hb⟩; replace hB := hB.trans (hb.mono hB.size); clear hb)
    | (go_at_call 19; (with_reducible refine (P1.out _ hB).mono ?_); rintro e w2 ⟨x, rfl, hb, hx⟩; replace hB := hB.trans (hb.mono hB.size); clear hb)
    | (go_at_call 20; (with_reducible refine (P2.out _ hB).mono ?_); rintro e w3 ⟨y, rfl, hb, hy⟩; replace hB := hB.trans (hb.mono hB.size); replace hx := (hx.below hb).mono hb.size; clear hb)
    | (go_at_call 18; (with_reducible refine (P3.out _ _ _ hx hy).mono ?_); rintro e w4 ⟨rfl, hb⟩; replace hB := hB.trans (hb.mono hB.size); clear hb))
  go_ret
  exact ⟨by first | rfl | simp, hB⟩
end Go.Proofs.YthboebhghaabnaaDoor
