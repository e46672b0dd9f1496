import Derived.Deep.Cut
import Derived.Test.YthboebhghaabnaaGreatDoorPzi
set_option linter.unusedSimpArgs false
set_option linter.unusedVariables false
namespace Go.Proofs.YthboebhghaabnaaGreatDoor
open Go.RowKit Fk Sha
/-! The calls of law 14's own sanity. -/
def nilTnA : TnA := ⟨none, 0, none, 0, none, 0, none, 0, none, 0⟩
theorem nil_tn (w : World) (B0 : Nat) : TnS w B0 nilTnA zTn := ⟨SlG.nil_ _ _, SlG.nil_ _ _, SlG.nil_ _ _, SlG.nil_ _ _, SlG.nil_ _ _⟩
theorem new_i2 (W : World) (a b : Int) : SlI (W.alloc (.cells #[.int .i64 a, .int .i64 b] 3)) (W.alloc (.cells #[.int .i64 a, .int .i64 b] 3)).heap.size (.slice (some ⟨W.heap.size, 0, none⟩) 2 2) [a, b] :=
  Row.sl (m := 1) (enc := encI) (c := 2) (l := [a, b]) (Row.new W 3 [.int .i64 a, .int .i64 b]) (fun _ => rfl) (by simp) (by simp)
theorem new_i1 (W : World) (a : Int) : SlI (W.alloc (.cells #[.int .i64 a] 3)) (W.alloc (.cells #[.int .i64 a] 3)).heap.size (.slice (some ⟨W.heap.size, 0, none⟩) 1 1) [a] :=
  Row.sl (m := 1) (enc := encI) (c := 1) (l := [a]) (Row.new W 3 [.int .i64 a]) (fun _ => rfl) (by simp) (by simp)
theorem ok_def : OkTn zTn := ⟨fun i h => absurd h (by simp [zTn]), fun i h => absurd h (by simp [zTn]), fun i h => absurd h (by simp [zTn])⟩
theorem two_cases {i : Nat} (h : i < 2) : i = 0 ∨ i = 1 := by omega
theorem ok_tw : OkTn twT := by
  refine ⟨fun i h => ?_, fun i h _ _ => ?_, fun i h _ _ => ?_⟩
  all_goals rcases two_cases (show i < 2 from h) with rfl | rfl
  · decide
  · decide
  · exact ⟨⟨⟨by decide, by decide⟩, ⟨by decide, by decide⟩, ⟨by decide, by decide⟩, ⟨by decide, by decide⟩⟩, by decide⟩
  · exact ⟨⟨⟨by decide, by decide⟩, ⟨by decide, by decide⟩, ⟨by decide, by decide⟩, ⟨by decide, by decide⟩⟩, by decide⟩
  · exact ⟨⟨⟨by decide, by decide⟩, ⟨by decide, by decide⟩, ⟨by decide, by decide⟩, ⟨by decide, by decide⟩⟩, by decide⟩
  · exact ⟨⟨⟨by decide, by decide⟩, ⟨by decide, by decide⟩, ⟨by decide, by decide⟩, ⟨by decide, by decide⟩⟩, by decide⟩
theorem tw64 : ∀ i, i < twT.s.length → (twT.s.getD i default).length = 64 := ok_tw.s
theorem ok_oX : ∀ i, i < oX.length → (oX.getD i default).ok := fun i h => by
  rcases two_cases (show i < 2 from h) with rfl | rfl
  · exact ok_tw.l 0 (by decide) (by decide) (by decide)
  · exact ok_tw.r 1 (by decide) (by decide) (by decide)
theorem mxok_tw : MxOK (mixC 4 sX twT) := by
  have hl : (mixC 4 sX twT).l = (List.range 2).map (fun j => comN tagL (ogL twT j)) := by rw [a_mixC]; rfl
  have hr : (mixC 4 sX twT).r = (List.range 2).map (fun j => comN tagR (ogR twT j)) := by rw [a_mixC]; rfl
  refine ⟨fun i h => ?_, fun i h => ?_⟩
  · rw [a_l] at h
    rw [hl, map_range_get _ h]
    exact comN_length _ _
  · rw [a_r] at h
    rw [hr, map_range_get _ h]
    exact comN_length _ _
theorem a_cells (y : MxA) : y.cells (mixC 4 sX twT) = [.slice y.ai 2 y.ci, .slice y.am 2 y.cm, .slice y.ao 2 y.co, .slice y.al 2 y.cl, .slice y.ar 2 y.cr] := by
  unfold MxA.cells
  rw [a_in, a_mid, a_out, a_l, a_r]
  rfl
theorem z_cells (y : MxA) : y.cells zMx = [.slice y.ai 0 y.ci, .slice y.am 0 y.cm, .slice y.ao 0 y.co, .slice y.al 0 y.cl, .slice y.ar 0 y.cr] := rfl
abbrev nilTnV : Value := .agg #[.slice none 0 0, .slice none 0 0, .slice none 0 0, .slice none 0 0, .slice none 0 0]
theorem c_mk2 (W : World) (hT : TabS W) : Calls Tryz.prog 7 #[.int .i64 2, .slice none 0 0, nilTnV] W fun e w' => ∃ y : MxA, e = .returned (.tuple #[.agg #[.slice y.ai 0 y.ci, .slice y.am 0 y.cm, .slice y.ao 0 y.co, .slice y.al 0 y.cl, .slice y.ar 0 y.cr], .int .i64 90]) ∧ Below W.heap.size W w' := by
  have h := make_any 2 [] zTn nilTnA (.slice none 0 0) W hT (nil_tn _ _) (SlG.nil_ _ _) ok_def
  have e : mixC 2 [] zTn = zMx := by unfold mixC; rw [a_mixE2]; rfl
  rw [a_mixE2, e] at h
  exact h.mono fun e w' ⟨y, h1, h2, _⟩ => ⟨y, h1, h2⟩
theorem c_mk0 (W : World) (hT : TabS W) : Calls Tryz.prog 7 #[.int .i64 4, .slice none 0 0, nilTnV] W fun e w' => ∃ y : MxA, e = .returned (.tuple #[.agg #[.slice y.ai 0 y.ci, .slice y.am 0 y.cm, .slice y.ao 0 y.co, .slice y.al 0 y.cl, .slice y.ar 0 y.cr], .int .i64 0]) ∧ Below W.heap.size W w' := by
  have h := make_any 4 [] zTn nilTnA (.slice none 0 0) W hT (nil_tn _ _) (SlG.nil_ _ _) ok_def
  have e : mixC 4 [] zTn = zMx := a_zero
  rw [a_mixE0, e] at h
  exact h.mono fun e w' ⟨y, h1, h2, _⟩ => ⟨y, h1, h2⟩
theorem c_mk (W : World) (x : TnA) (g : Nat) (hT : TabS W) (hx : TnS W W.heap.size x twT) (hr : Row W g 45 (sX.flatMap encS)) (hg : g < W.heap.size) : Calls Tryz.prog 7 #[.int .i64 4, .slice (some ⟨g, 0, none⟩) 2 2, .agg (x.cells twT).toArray] W fun e w' => ∃ y : MxA, e = .returned (.tuple #[.agg #[.slice y.ai 2 y.ci, .slice y.am 2 y.cm, .slice y.ao 2 y.co, .slice y.al 2 y.cl, .slice y.ar 2 y.cr], .int .i64 0]) ∧ Below W.heap.size W w' ∧ MxS w' w'.heap.size y (mixC 4 sX twT) := by
  have h := make_any 4 sX twT x (.slice (some ⟨g, 0, none⟩) 2 2) W hT hx (Row.sl (m := 6) (enc := encS) (c := 2) (l := sX) hr (fun _ => rfl) (by decide) hg) ok_tw
  rw [a_mixE] at h
  refine h.mono fun e w' ⟨y, h1, h2, h3⟩ => ⟨y, ?_, h2, h3⟩
  rw [h1, a_cells]
theorem c_op0 (W : World) : Calls Tryz.prog 16 #[nilTnV, .slice (some ⟨W.heap.size, 0, none⟩) 1 1] (W.alloc (.cells #[.int .i64 1] 3)) fun e w' => ∃ v, e = .returned (.tuple #[v, .int .i64 140]) ∧ Below W.heap.size W w' := by
  have h := open_any zTn nilTnA [1] (.slice (some ⟨W.heap.size, 0, none⟩) 1 1) (W.alloc (.cells #[.int .i64 1] 3)) (nil_tn _ _) (new_i1 W 1) (fun i h => absurd h (by simp [zTn]))
  rw [a_openE0] at h
  exact h.mono fun e w' ⟨v, h1, h2, _⟩ => ⟨v, h1, (below_alloc' W _).trans (h2.mono (by simp))⟩
theorem c_op1 (W : World) (x : TnA) (hx : TnS W W.heap.size x twT) : Calls Tryz.prog 16 #[.agg (x.cells twT).toArray, .slice (some ⟨W.heap.size, 0, none⟩) 2 2] (W.alloc (.cells #[.int .i64 0, .int .i64 1] 3)) fun e w' => ∃ v, e = .returned (.tuple #[v, .int .i64 0]) ∧ Below W.heap.size W w' ∧ SlG 36 Og.cells w' w'.heap.size v oX := by
  have h := open_any twT x [0, 1] (.slice (some ⟨W.heap.size, 0, none⟩) 2 2) (W.alloc (.cells #[.int .i64 0, .int .i64 1] 3)) ((hx.below (below_alloc' W _)).mono (by simp)) (new_i2 W 0 1) tw64
  rw [a_openE1, a_openC1] at h
  exact h.mono fun e w' ⟨v, h1, h2, h3⟩ => ⟨v, h1, (below_alloc' W _).trans (h2.mono (by simp)), h3⟩
theorem c_op2 (W : World) (x : TnA) (hx : TnS W W.heap.size x twT) : Calls Tryz.prog 16 #[.agg (x.cells twT).toArray, .slice (some ⟨W.heap.size, 0, none⟩) 2 2] (W.alloc (.cells #[.int .i64 1, .int .i64 0] 3)) fun e w' => ∃ v, e = .returned (.tuple #[v, .int .i64 0]) ∧ Below W.heap.size W w' ∧ SlG 36 Og.cells w' w'.heap.size v oY := by
  have h := open_any twT x [1, 0] (.slice (some ⟨W.heap.size, 0, none⟩) 2 2) (W.alloc (.cells #[.int .i64 1, .int .i64 0] 3)) ((hx.below (below_alloc' W _)).mono (by simp)) (new_i2 W 1 0) tw64
  rw [a_openE2, a_openC2] at h
  exact h.mono fun e w' ⟨v, h1, h2, h3⟩ => ⟨v, h1, (below_alloc' W _).trans (h2.mono (by simp)), h3⟩
theorem c_tr1 (W : World) (x : TnA) (hx : TnS W W.heap.size x twT) : Calls Tryz.prog 17 #[.agg (x.cells twT).toArray] W fun e w' => ∃ v, e = .returned (.tuple #[v, .int .i64 0]) ∧ Below W.heap.size W w' ∧ SlI w' w'.heap.size v [1, 0] := by
  have h := trace_any twT x W hx
  rw [a_traceE, a_traceC] at h
  exact h
/-- the turn whose left places are no permutation -/
theorem c_tr2 (W : World) (x : TnA) (g : Nat) (hx : TnS W W.heap.size x twT) (hr : Row W g 3 [.int .i64 0, .int .i64 0]) (hg : g < W.heap.size) : Calls Tryz.prog 17 #[.agg #[.slice (some ⟨g, 0, none⟩) 2 2, .slice x.ar 2 x.cr, .slice x.arl 2 x.crl, .slice x.arr 2 x.crr, .slice x.at_ 2 x.ct]] W fun e w' => ∃ v, e = .returned (.tuple #[v, .int .i64 140]) ∧ Below W.heap.size W w' := by
  have h := trace_any badT { x with al := some ⟨g, 0, none⟩, cl := 2 } W ⟨Row.sl (m := 1) (enc := encI) (c := 2) (l := [0, 0]) hr (fun _ => rfl) (by decide) hg, hx.r, hx.rl, hx.rr, hx.s⟩
  rw [a_traceB] at h
  exact h.mono fun e w' ⟨v, h1, h2, _⟩ => ⟨v, h1, h2⟩
theorem c_wh1 (W : World) (v1 v2 : Value) (h1 : SlG 36 Og.cells W W.heap.size v1 oX) (h2 : SlG 36 Og.cells W W.heap.size v2 oY) : Calls Tryz.prog 18 #[.slice (some ⟨W.heap.size, 0, none⟩) 2 2, v1, v2] (W.alloc (.cells #[.int .i64 0, .int .i64 1] 3)) fun e w' => ∃ v, e = .returned (.tuple #[v, .bool true]) ∧ Below W.heap.size W w' ∧ SlI w' w'.heap.size v [1, 0] := by
  have h := whole_any [0, 1] oX oY (.slice (some ⟨W.heap.size, 0, none⟩) 2 2) v1 v2 (W.alloc (.cells #[.int .i64 0, .int .i64 1] 3)) (new_i2 W 0 1) ((h1.below (below_alloc' W _)).mono (by simp)) ((h2.below (below_alloc' W _)).mono (by simp))
  rw [a_wholeB, a_wholeC] at h
  exact h.mono fun e w' ⟨v, h1, h2, h3⟩ => ⟨v, h1, (below_alloc' W _).trans (h2.mono (by simp)), h3⟩
theorem c_wh2 (W : World) (v1 : Value) (h1 : SlG 36 Og.cells W W.heap.size v1 oX) : Calls Tryz.prog 18 #[.slice (some ⟨W.heap.size, 0, none⟩) 2 2, v1, v1] (W.alloc (.cells #[.int .i64 0, .int .i64 1] 3)) fun e w' => ∃ v, e = .returned (.tuple #[v, .bool false]) ∧ Below W.heap.size W w' := by
  have h := whole_any [0, 1] oX oX (.slice (some ⟨W.heap.size, 0, none⟩) 2 2) v1 v1 (W.alloc (.cells #[.int .i64 0, .int .i64 1] 3)) (new_i2 W 0 1) ((h1.below (below_alloc' W _)).mono (by simp)) ((h1.below (below_alloc' W _)).mono (by simp))
  rw [a_wholeN] at h
  exact h.mono fun e w' ⟨v, h1, h2, _⟩ => ⟨v, h1, (below_alloc' W _).trans (h2.mono (by simp))⟩
abbrev seYo : Obj := .cells #[.int .i64 16, .int .i64 16, .int .i64 1, .int .i64 1, .int .i64 1, .int .i64 1, .int .i64 4, .int .i64 4, .int .i64 1, .int .i64 1, .int .i64 1, .int .i64 1] 45
theorem new_sY (W : World) : SlS (W.alloc seYo) (W.alloc seYo).heap.size (.slice (some ⟨W.heap.size, 0, none⟩) 2 2) sY :=
  Row.sl (m := 6) (enc := encS) (c := 2) (l := sY) (Row.new W 45 (sY.flatMap encS)) (fun _ => rfl) (by decide) (by simp)
theorem c_mid (W : World) (y : MxA) (h : MxS W W.heap.size y (mixC 4 sX twT)) : Calls Tryz.prog 19 #[.slice y.am 2 y.cm, .slice (some ⟨W.heap.size, 0, none⟩) 2 2] (W.alloc seYo) fun e w' => e = .returned (.bool true) ∧ Below W.heap.size W w' := by
  have hm := h.m
  rw [a_mid] at hm
  have := same10_any sY (.slice y.am 2 y.cm) (.slice (some ⟨W.heap.size, 0, none⟩) 2 2) (W.alloc seYo) _ (Nat.le_refl _) ((hm.below (below_alloc' W _)).mono (by simp)) (new_sY W)
  exact this.mono fun e w' ⟨h1, h2⟩ => ⟨h1, (below_alloc' W _).trans (h2.mono (by simp))⟩
theorem c_out (W : World) (y : MxA) (h : MxS W W.heap.size y (mixC 4 sX twT)) : Calls Tryz.prog 19 #[.slice y.ao 2 y.co, .slice (some ⟨W.heap.size, 0, none⟩) 2 2] (W.alloc seYo) fun e w' => e = .returned (.bool true) ∧ Below W.heap.size W w' := by
  have hm := h.o
  rw [a_out] at hm
  have := same10_any sY (.slice y.ao 2 y.co) (.slice (some ⟨W.heap.size, 0, none⟩) 2 2) (W.alloc seYo) _ (Nat.le_refl _) ((hm.below (below_alloc' W _)).mono (by simp)) (new_sY W)
  exact this.mono fun e w' ⟨h1, h2⟩ => ⟨h1, (below_alloc' W _).trans (h2.mono (by simp))⟩
theorem c_so (W : World) (v1 : Value) (a : Array Value) (ha : a = (oX.flatMap Og.cells).toArray) (h1 : SlG 36 Og.cells W W.heap.size v1 oX) : Calls Tryz.prog 20 #[v1, .slice (some ⟨W.heap.size, 0, none⟩) 2 2] (W.alloc (.cells a 60)) fun e w' => e = .returned (.bool true) ∧ Below W.heap.size W w' := by
  subst ha
  have h2 : SlG 36 Og.cells (W.alloc (.cells (oX.flatMap Og.cells).toArray 60)) (W.alloc (.cells (oX.flatMap Og.cells).toArray 60)).heap.size (.slice (some ⟨W.heap.size, 0, none⟩) 2 2) oX :=
    row_slM (m := 36) (c := 2) (l := oX) (Row.new W 60 (oX.flatMap Og.cells)) (fun x hx => by
      rw [a_one] at hx
      simp at hx
      subst hx
      simp [Og.cells]) (by decide) (by simp)
  have := sameopened_any oX v1 (.slice (some ⟨W.heap.size, 0, none⟩) 2 2) (W.alloc (.cells (oX.flatMap Og.cells).toArray 60)) _ (Nat.le_refl _) (fun i h => (ok_oX i h).2) ((h1.below (below_alloc' W _)).mono (by simp)) h2
  exact this.mono fun e w' ⟨h1, h2⟩ => ⟨h1, (below_alloc' W _).trans (h2.mono (by simp))⟩
theorem c_si (W : World) (v1 : Value) (h1 : SlI W W.heap.size v1 [1, 0]) : Calls Tryz.prog 21 #[v1, .slice (some ⟨W.heap.size, 0, none⟩) 2 2] (W.alloc (.cells #[.int .i64 1, .int .i64 0] 3)) fun e w' => e = .returned (.bool true) ∧ Below W.heap.size W w' := by
  have := sameints14_any [1, 0] v1 (.slice (some ⟨W.heap.size, 0, none⟩) 2 2) (W.alloc (.cells #[.int .i64 1, .int .i64 0] 3)) _ (Nat.le_refl _) ((h1.below (below_alloc' W _)).mono (by simp)) (new_i2 W 1 0)
  exact this.mono fun e w' ⟨h1, h2⟩ => ⟨h1, (below_alloc' W _).trans (h2.mono (by simp))⟩
theorem zok : MxOK zMx := ⟨fun i h => absurd h (by simp [zMx]), fun i h => absurd h (by simp [zMx])⟩
theorem c_ck0 (W : World) (hT : TabS W) : Calls Tryz.prog 12 #[.int .i64 4, nilTnV, .slice none 0 0, .slice none 0 0] W fun e w' => e = .returned (.bool true) ∧ Below W.heap.size W w' := by
  have h := check_any 4 nilMxA zMx [] [] (.slice none 0 0) (.slice none 0 0) W hT (nil_mx _ _) (SlG.nil_ _ _) (SlG.nil_ _ _) zok (fun i h => absurd h (by simp))
  rw [a_check0] at h
  exact h
theorem c_ck2 (W : World) (hT : TabS W) : Calls Tryz.prog 12 #[.int .i64 2, nilTnV, .slice none 0 0, .slice none 0 0] W fun e w' => e = .returned (.bool false) ∧ Below W.heap.size W w' := by
  have h := check_any 2 nilMxA zMx [] [] (.slice none 0 0) (.slice none 0 0) W hT (nil_mx _ _) (SlG.nil_ _ _) (SlG.nil_ _ _) zok (fun i h => absurd h (by simp))
  rw [a_check2] at h
  exact h
abbrev mxV (y : MxA) : Value := .agg #[.slice y.ai 2 y.ci, .slice y.am 2 y.cm, .slice y.ao 2 y.co, .slice y.al 2 y.cl, .slice y.ar 2 y.cr]
theorem c_ckY (W : World) (y : MxA) (v1 : Value) (hT : TabS W) (h : MxS W W.heap.size y (mixC 4 sX twT)) (h1 : SlG 36 Og.cells W W.heap.size v1 oX) : Calls Tryz.prog 12 #[.int .i64 4, mxV y, .slice (some ⟨W.heap.size, 0, none⟩) 2 2, v1] (W.alloc (.cells #[.int .i64 0, .int .i64 1] 3)) fun e w' => e = .returned (.bool true) ∧ Below W.heap.size W w' := by
  have h := check_any 4 y (mixC 4 sX twT) [0, 1] oX (.slice (some ⟨W.heap.size, 0, none⟩) 2 2) v1 (W.alloc (.cells #[.int .i64 0, .int .i64 1] 3)) (hT.below (below_alloc' W _)) ((h.below (below_alloc' W _)).mono (by simp)) (new_i2 W 0 1) ((h1.below (below_alloc' W _)).mono (by simp)) mxok_tw ok_oX
  rw [a_checkY, a_cells] at h
  exact h.mono fun e w' ⟨h1, h2⟩ => ⟨h1, (below_alloc' W _).trans (h2.mono (by simp))⟩
theorem c_ckN (W : World) (y : MxA) (v1 : Value) (hT : TabS W) (h : MxS W W.heap.size y (mixC 4 sX twT)) (h1 : SlG 36 Og.cells W W.heap.size v1 oX) : Calls Tryz.prog 12 #[.int .i64 4, mxV y, .slice (some ⟨W.heap.size, 0, none⟩) 2 2, v1] (W.alloc (.cells #[.int .i64 0, .int .i64 0] 3)) fun e w' => e = .returned (.bool false) ∧ Below W.heap.size W w' := by
  have h := check_any 4 y (mixC 4 sX twT) [0, 0] oX (.slice (some ⟨W.heap.size, 0, none⟩) 2 2) v1 (W.alloc (.cells #[.int .i64 0, .int .i64 0] 3)) (hT.below (below_alloc' W _)) ((h.below (below_alloc' W _)).mono (by simp)) (new_i2 W 0 0) ((h1.below (below_alloc' W _)).mono (by simp)) mxok_tw ok_oX
  rw [a_checkN, a_cells] at h
  exact h.mono fun e w' ⟨h1, h2⟩ => ⟨h1, (below_alloc' W _).trans (h2.mono (by simp))⟩
abbrev twV (x : TnA) : Value := .agg #[.slice x.al 2 x.cl, .slice x.ar 2 x.cr, .slice x.arl 2 x.crl, .slice x.arr 2 x.crr, .slice x.at_ 2 x.ct]
theorem c_two (w : World) : Calls Tryz.prog 15 #[] w fun e w' => ∃ x : TnA, e = .returned (twV x) ∧ Below w.heap.size w w' ∧ TnS w' w'.heap.size x twT := two_any w
theorem d_op1 (W : World) (x : TnA) (hx : TnS W W.heap.size x twT) : Calls Tryz.prog 16 #[twV x, .slice (some ⟨W.heap.size, 0, none⟩) 2 2] (W.alloc (.cells #[.int .i64 0, .int .i64 1] 3)) fun e w' => ∃ v, e = .returned (.tuple #[v, .int .i64 0]) ∧ Below W.heap.size W w' ∧ SlG 36 Og.cells w' w'.heap.size v oX := c_op1 W x hx
theorem d_op2 (W : World) (x : TnA) (hx : TnS W W.heap.size x twT) : Calls Tryz.prog 16 #[twV x, .slice (some ⟨W.heap.size, 0, none⟩) 2 2] (W.alloc (.cells #[.int .i64 1, .int .i64 0] 3)) fun e w' => ∃ v, e = .returned (.tuple #[v, .int .i64 0]) ∧ Below W.heap.size W w' ∧ SlG 36 Og.cells w' w'.heap.size v oY := c_op2 W x hx
theorem d_tr1 (W : World) (x : TnA) (hx : TnS W W.heap.size x twT) : Calls Tryz.prog 17 #[twV x] W fun e w' => ∃ v, e = .returned (.tuple #[v, .int .i64 0]) ∧ Below W.heap.size W w' ∧ SlI w' w'.heap.size v [1, 0] := c_tr1 W x hx
abbrev ogZ : List Value := [.int .i64 1, .int .i64 0, .int .i64 0, .int .i64 0] ++ List.replicate 32 (.int .u8 0)
/-- a list lies elsewhere than in a block of slices -/
theorem SlG.apart {α : Type} [Inhabited α] {m : Nat} {enc : α → List Value} {W W' : World} {B0 g : Nat} {v : Value} {l : List α} {t : TypeId} {vs : List Value} (h : SlG m enc W B0 v l) (hr : Row W g t vs) (hs : ∀ u ∈ vs, ∃ A n c, u = .slice A n c) (hm : 0 < m)
    (he : ∀ i, i < l.length → ∃ kd n, (enc (l.getD i default)).getD 0 undef = .int kd n) (hk : ∀ k, k ≠ g → W'.heap[k]? = W.heap[k]?) : SlG m enc W' B0 v l := by
  obtain ⟨hl, A, c, hv, hE⟩ := h
  refine ⟨hl, A, c, hv, fun h0 => ?_⟩
  obtain ⟨b, off, hA, hb, hC⟩ := hE h0
  refine ⟨b, off, hA, hb, ?_⟩
  have hne : b ≠ g := by
    rintro rfl
    have h1 := hC 0 h0 0 hm
    obtain ⟨kd, n, e⟩ := he 0 h0
    rw [e, Row.cell hr] at h1
    obtain ⟨A2, n2, c2, e2⟩ := hs _ (List.mem_of_getElem? h1)
    cases e2
  exact CellsG.keep hC (hk b hne)
theorem mx_apart {W W' : World} {B0 g : Nat} {y : MxA} {m : Mx} {t : TypeId} {vs : List Value} (h : MxS W B0 y m) (ho : MxOK m) (hr : Row W g t vs) (hs : ∀ u ∈ vs, ∃ A n c, u = .slice A n c) (hk : ∀ k, k ≠ g → W'.heap[k]? = W.heap[k]?) : MxS W' B0 y m := by
  have dg : ∀ d : List B, d.length = 32 → ∃ kd n, (encD d).getD 0 undef = .int kd n := fun d hd => by
    match d, hd with
    | x :: d, _ => exact ⟨_, _, rfl⟩
  exact ⟨SlG.apart h.i hr hs (by decide) (fun i _ => ⟨_, _, rfl⟩) hk, SlG.apart h.m hr hs (by decide) (fun i _ => ⟨_, _, rfl⟩) hk, SlG.apart h.o hr hs (by decide) (fun i _ => ⟨_, _, rfl⟩) hk,
    SlG.apart h.l hr hs (by decide) (fun i hi => dg _ (ho.l i hi)) hk, SlG.apart h.r hr hs (by decide) (fun i hi => dg _ (ho.r i hi)) hk⟩
end Go.Proofs.YthboebhghaabnaaGreatDoor

/-! The same with nodes where three operations may come up. -/
namespace Fk
open Go
inductive Tri where
  | done
  | take (k : Nat) (t : Tri)
  | one (k : Nat) (t : Tri)
  | two (i : Nat) (s : Tri) (j : Nat) (t : Tri)
  | three (i : Nat) (s : Tri) (j : Nat) (t : Tri) (k : Nat) (u : Tri)
section
variable {P : Program} {ops : Array Oper} {Q : Exit → Act → World → Prop} {md : Region.Mode} {S : World → Prop} {n : Nat}
/-- every path is m steps long -/
def triB (md : Region.Mode) (ops : Array Oper) (n : Nat) : Nat → Tri → Array Bool → Bool
  | m, .done, listed => decide (m = 0) && Region.seqB md ops (ops.size - n) n listed
  | m + 1, .take k t, listed => decide (k < n) && (Region.ready md ops listed).contains k && freeT md ops n listed k && triB md ops n m t (listed.setIfInBounds k true)
  | m + 1, .one k t, listed => decide (k < n) && decide (Region.ready md ops listed = [k]) && triB md ops n m t (listed.setIfInBounds k true)
  | m + 1, .two i s j t, listed => decide (i < n) && decide (j < n) && decide (Region.ready md ops listed = [i, j]) && triB md ops n m s (listed.setIfInBounds i true) && triB md ops n m t (listed.setIfInBounds j true)
  | m + 1, .three i s j t k u, listed => decide (i < n) && decide (j < n) && decide (k < n) && decide (Region.ready md ops listed = [i, j, k]) && triB md ops n m s (listed.setIfInBounds i true) && triB md ops n m t (listed.setIfInBounds j true) && triB md ops n m u (listed.setIfInBounds k true)
  | 0, _, _ => false
def wpTri (P : Program) (ops : Array Oper) (Q : Exit → Act → World → Prop) (S : World → Prop) (tl : List Oper) : Tri → Act → World → Prop
  | .done, a, w => wpList P ops Q tl a w
  | .take k t, a, w => ∃ o v, ops[k]? = some o ∧ YieldsIf P ops S o v a ∧ wpTri P ops Q S tl t (a.put o.dst v) w
  | .one k t, a, w => ∃ o, ops[k]? = some o ∧ if Region.wanted o (yielded ops a.tmps) then o.wp P a w (fun a' w' => S w' ∧ wpTri P ops Q S tl t a' w') Q else wpTri P ops Q S tl t (a.put o.dst undef) w
  | .two i s j t, a, w => (∃ o, ops[i]? = some o ∧ if Region.wanted o (yielded ops a.tmps) then o.wp P a w (fun a' w' => S w' ∧ wpTri P ops Q S tl s a' w') Q else wpTri P ops Q S tl s (a.put o.dst undef) w) ∧
    (∃ o, ops[j]? = some o ∧ if Region.wanted o (yielded ops a.tmps) then o.wp P a w (fun a' w' => S w' ∧ wpTri P ops Q S tl t a' w') Q else wpTri P ops Q S tl t (a.put o.dst undef) w)
  | .three i s j t k u, a, w => (∃ o, ops[i]? = some o ∧ if Region.wanted o (yielded ops a.tmps) then o.wp P a w (fun a' w' => S w' ∧ wpTri P ops Q S tl s a' w') Q else wpTri P ops Q S tl s (a.put o.dst undef) w) ∧ (∃ o, ops[j]? = some o ∧ if Region.wanted o (yielded ops a.tmps) then o.wp P a w (fun a' w' => S w' ∧ wpTri P ops Q S tl t a' w') Q else wpTri P ops Q S tl t (a.put o.dst undef) w) ∧ (∃ o, ops[k]? = some o ∧ if Region.wanted o (yielded ops a.tmps) then o.wp P a w (fun a' w' => S w' ∧ wpTri P ops Q S tl u a' w') Q else wpTri P ops Q S tl u (a.put o.dst undef) w)
theorem tri_sound (hQ : ∀ c a (d : Option Tmp) v w, Q (.panic c) (Act.put a d v) w → Q (.panic c) a w) (hsel : Region.noSelect ops = true) (hs : sinkF md ops n [] = true) (hc : Region.chainB md ops n = true) (hn : n < ops.size)
    (tl : List Oper) (htl : ∀ j, tl[j]? = ops[n + j]?) (hlen : tl.length = ops.size - n) :
    ∀ (t : Tri) (m : Nat) (listed : Array Bool) (a : Act) (w : World), HeadInv md ops n listed → triB md ops n m t listed = true → S w →
      wpTri P ops Q S tl t a w → wpAnyG P md ops Q S n [] (m + (ops.size - n)) listed a w
  | .done, m, listed, a, w, _, hB, _, h => by
    simp only [triB, Bool.and_eq_true, decide_eq_true_eq] at hB
    rw [hB.1, Nat.zero_add, ← hlen]
    exact wpAnyG_seq tl n listed a w (Nat.le_refl _) htl (by rw [hlen]; exact hB.2) h
  | .take k t, 0, listed, a, w, inv, hB, hS, h => by cases hB
  | .one k t, 0, listed, a, w, inv, hB, hS, h => by cases hB
  | .two i s j t, 0, listed, a, w, inv, hB, hS, h => by cases hB
  | .three i s j t k u, 0, listed, a, w, inv, hB, hS, h => by cases hB
  | .take k t, m + 1, listed, a, w, inv, hB, hS, h => by
    obtain ⟨o, v, ho, hy, h⟩ := h
    simp only [triB, Bool.and_eq_true, decide_eq_true_eq] at hB
    obtain ⟨⟨⟨h1, h2⟩, h3⟩, h4⟩ := hB
    have hr : k ∈ Region.ready md ops listed := by simpa using h2
    rw [show m + 1 + (ops.size - n) = (m + (ops.size - n)) + 1 by omega]
    exact wpAnyG_firstT ho (Region.noSelect_spec hsel) hs hc hn h1 rfl (fun c a w => hQ c a o.dst v w) _ listed a w inv (frDone_nil _) (freeT_spec ho h3) hr hy hS
      (tri_sound hQ hsel hs hc hn tl htl hlen t m _ _ w (inv.set hr h1) h4 hS h)
  | .one k t, m + 1, listed, a, w, inv, hB, hS, h => by
    simp only [triB, Bool.and_eq_true, decide_eq_true_eq] at hB
    obtain ⟨⟨h1, h2⟩, h4⟩ := hB
    have hr : k ∈ Region.ready md ops listed := by rw [h2]; simp
    rw [show m + 1 + (ops.size - n) = (m + (ops.size - n)) + 1 by omega]
    refine ⟨fun h0 => (by rw [h0] at hr; cases hr), fun i hi => ?_⟩
    rw [h2] at hi
    obtain rfl : i = k := by simpa using hi
    exact tree_op hS h (fun a' w' hS' h' => ⟨fun _ => hS', tri_sound hQ hsel hs hc hn tl htl hlen t m _ a' w' (inv.set hr h1) h4 hS' h'⟩)
  | .two i s j t, m + 1, listed, a, w, inv, hB, hS, h => by
    simp only [triB, Bool.and_eq_true, decide_eq_true_eq] at hB
    obtain ⟨⟨⟨⟨h1, h1'⟩, h2⟩, h4⟩, h5⟩ := hB
    have hri : i ∈ Region.ready md ops listed := by rw [h2]; simp
    have hrj : j ∈ Region.ready md ops listed := by rw [h2]; simp
    rw [show m + 1 + (ops.size - n) = (m + (ops.size - n)) + 1 by omega]
    refine ⟨fun h0 => (by rw [h0] at hri; cases hri), fun k hk => ?_⟩
    rw [h2] at hk
    simp only [List.mem_cons, List.not_mem_nil, or_false] at hk
    rcases hk with rfl | rfl
    · exact tree_op hS h.1 (fun a' w' hS' h' => ⟨fun _ => hS', tri_sound hQ hsel hs hc hn tl htl hlen s m _ a' w' (inv.set hri h1) h4 hS' h'⟩)
    · exact tree_op hS h.2 (fun a' w' hS' h' => ⟨fun _ => hS', tri_sound hQ hsel hs hc hn tl htl hlen t m _ a' w' (inv.set hrj h1') h5 hS' h'⟩)
  | .three i s j t k u, m + 1, listed, a, w, inv, hB, hS, h => by
    simp only [triB, Bool.and_eq_true, decide_eq_true_eq] at hB
    obtain ⟨⟨⟨⟨⟨⟨h1, h1'⟩, h1''⟩, h2⟩, h4⟩, h5⟩, h6⟩ := hB
    have hri : i ∈ Region.ready md ops listed := by rw [h2]; simp
    have hrj : j ∈ Region.ready md ops listed := by rw [h2]; simp
    have hrk : k ∈ Region.ready md ops listed := by rw [h2]; simp
    rw [show m + 1 + (ops.size - n) = (m + (ops.size - n)) + 1 by omega]
    refine ⟨fun h0 => (by rw [h0] at hri; cases hri), fun l hl => ?_⟩
    rw [h2] at hl
    simp only [List.mem_cons, List.not_mem_nil, or_false] at hl
    rcases hl with rfl | rfl | rfl
    · exact tree_op hS h.1 (fun a' w' hS' h' => ⟨fun _ => hS', tri_sound hQ hsel hs hc hn tl htl hlen s m _ a' w' (inv.set hri h1) h4 hS' h'⟩)
    · exact tree_op hS h.2.1 (fun a' w' hS' h' => ⟨fun _ => hS', tri_sound hQ hsel hs hc hn tl htl hlen t m _ a' w' (inv.set hrj h1') h5 hS' h'⟩)
    · exact tree_op hS h.2.2 (fun a' w' hS' h' => ⟨fun _ => hS', tri_sound hQ hsel hs hc hn tl htl hlen u m _ a' w' (inv.set hrk h1'') h6 hS' h'⟩)
def regTri (ops : Array Oper) (n : Nat) (t : Tri) : Bool :=
  Region.noSelect ops && decide (n < ops.size) && sinkF .any ops n [] && Region.chainB .any ops n && triB .any ops n n t (Array.replicate ops.size false)
theorem regTri_any {l : List Oper} {a : Act} {w : World} (n : Nat) (t : Tri) (S : World → Prop) (hB : regTri l.toArray n t = true)
    (hQ : ∀ c a (d : Option Tmp) v w, Q (.panic c) (Act.put a d v) w → Q (.panic c) a w) (hS : S w) (h : wpTri P l.toArray Q S (l.drop n) t a w) : wpAny P .any l.toArray Q l.toArray.size (Array.replicate l.toArray.size false) a w := by
  simp only [regTri, Bool.and_eq_true, decide_eq_true_eq] at hB
  obtain ⟨⟨⟨⟨hsel, hn⟩, hs⟩, hc⟩, hord⟩ := hB
  have inv0 : HeadInv .any l.toArray n (Array.replicate l.toArray.size false) :=
    ⟨by simp, fun j oj _ hl => (by rw [getD_replicate_false] at hl; cases hl), fun t _ ht => getD_in (by simpa using ht) (getD_replicate_false _ _)⟩
  have := tri_sound (P := P) (Q := Q) (S := S) hQ hsel hs hc hn (l.drop n) (fun j => by simp [List.getElem?_drop]) (by simp) t n _ a w inv0 hord hS h
  rw [show n + (l.toArray.size - n) = l.toArray.size by omega] at this
  exact wpAny_of_G _ _ _ _ this
theorem wp_region_tri {id : Nat} {a : Act} {w : World} {l : List Oper} (n : Nat) (t : Tri) (S : World → Prop) (hm : P.follows .mixedOrders = true) (hB : regTri l.toArray n t = true)
    (hQ : ∀ c a (d : Option Tmp) v w, Q (.panic c) (Act.put a d v) w → Q (.panic c) a w) (hS : S w.drew) (h : wpTri P l.toArray Q S (l.drop n) t a w.drew) : (Code.region id l.toArray true).wp P Q a w :=
  wp_region_any hm (regTri_any n t S hB hQ hS h)
theorem wpIn_region_tri {lb m : Nat} {id : Nat} {a : Act} {w : World} {l : List Oper} (n : Nat) (t : Tri) (S : World → Prop) (hm : P.follows .mixedOrders = true) (hB : (regTri l.toArray n t && noDefer l.toArray) = true)
    (hL : ¬ LetsOut Q) (hQ : ∀ c a (d : Option Tmp) v w, Q (.panic c) (Act.put a d v) w → Q (.panic c) a w) (hS : S w.drew) (h : wpTri P l.toArray Q S (l.drop n) t a w.drew) : (Code.region id l.toArray true).wpIn (Fence.wide.inRound lb) m P Q a w := by
  rw [Bool.and_eq_true] at hB
  exact wpIn_region_any hm (wpAnyIn_of lb m hB.2 hL _ _ _ _ (regTri_any n t S hB.1 hQ hS h))
/-! ### the steps -/
variable {tl : List Oper}
theorem wpTri_take {k : Nat} {t : Tri} {o : Oper} {v : Value} {a : Act} {w : World} (ho : ops[k]? = some o) (hw : Region.wanted o (yielded ops a.tmps) = true)
    (hy : ∀ w, S w → (execOp a.eval o).run P w = .ok (.value v) w) (h : wpTri P ops Q S tl t (a.put o.dst v) w) : wpTri P ops Q S tl (.take k t) a w :=
  ⟨o, v, ho, .inl ⟨hw, hy⟩, h⟩
theorem wpTri_skip {k : Nat} {t : Tri} {o : Oper} {a : Act} {w : World} (ho : ops[k]? = some o) (hw : Region.wanted o (yielded ops a.tmps) = false)
    (h : wpTri P ops Q S tl t (a.put o.dst undef) w) : wpTri P ops Q S tl (.take k t) a w :=
  ⟨o, undef, ho, .inr ⟨hw, rfl⟩, h⟩
theorem wpTri_one {k : Nat} {t : Tri} {o : Oper} {a : Act} {w : World} (ho : ops[k]? = some o)
    (h : ∀ K : Act → World → Prop, (∀ a w, S w → wpTri P ops Q S tl t a w → K a w) → Region.wanted o (yielded ops a.tmps) = true ∧ o.wp P a w K Q) : wpTri P ops Q S tl (.one k t) a w := by
  obtain ⟨h1, h2⟩ := h (fun a' w' => S w' ∧ wpTri P ops Q S tl t a' w') (fun _ _ h1 h2 => ⟨h1, h2⟩)
  exact ⟨o, ho, by rw [if_pos h1]; exact h2⟩
theorem wpTri_two {i j : Nat} {s t : Tri} {oi oj : Oper} {a : Act} {w : World} (hoi : ops[i]? = some oi) (hoj : ops[j]? = some oj)
    (h1 : ∀ K : Act → World → Prop, (∀ a w, S w → wpTri P ops Q S tl s a w → K a w) → Region.wanted oi (yielded ops a.tmps) = true ∧ oi.wp P a w K Q)
    (h2 : ∀ K : Act → World → Prop, (∀ a w, S w → wpTri P ops Q S tl t a w → K a w) → Region.wanted oj (yielded ops a.tmps) = true ∧ oj.wp P a w K Q) : wpTri P ops Q S tl (.two i s j t) a w := by
  obtain ⟨g1, g2⟩ := h1 (fun a' w' => S w' ∧ wpTri P ops Q S tl s a' w') (fun _ _ h1 h2 => ⟨h1, h2⟩)
  obtain ⟨g3, g4⟩ := h2 (fun a' w' => S w' ∧ wpTri P ops Q S tl t a' w') (fun _ _ h1 h2 => ⟨h1, h2⟩)
  exact ⟨⟨oi, hoi, by rw [if_pos g1]; exact g2⟩, ⟨oj, hoj, by rw [if_pos g3]; exact g4⟩⟩
theorem wpTri_three {i j k : Nat} {s t u : Tri} {oi oj ok : Oper} {a : Act} {w : World} (hoi : ops[i]? = some oi) (hoj : ops[j]? = some oj) (hok : ops[k]? = some ok)
    (h1 : ∀ K : Act → World → Prop, (∀ a w, S w → wpTri P ops Q S tl s a w → K a w) → Region.wanted oi (yielded ops a.tmps) = true ∧ oi.wp P a w K Q)
    (h2 : ∀ K : Act → World → Prop, (∀ a w, S w → wpTri P ops Q S tl t a w → K a w) → Region.wanted oj (yielded ops a.tmps) = true ∧ oj.wp P a w K Q)
    (h3 : ∀ K : Act → World → Prop, (∀ a w, S w → wpTri P ops Q S tl u a w → K a w) → Region.wanted ok (yielded ops a.tmps) = true ∧ ok.wp P a w K Q) : wpTri P ops Q S tl (.three i s j t k u) a w := by
  obtain ⟨g1, g2⟩ := h1 (fun a' w' => S w' ∧ wpTri P ops Q S tl s a' w') (fun _ _ h1 h2 => ⟨h1, h2⟩)
  obtain ⟨g3, g4⟩ := h2 (fun a' w' => S w' ∧ wpTri P ops Q S tl t a' w') (fun _ _ h1 h2 => ⟨h1, h2⟩)
  obtain ⟨g5, g6⟩ := h3 (fun a' w' => S w' ∧ wpTri P ops Q S tl u a' w') (fun _ _ h1 h2 => ⟨h1, h2⟩)
  exact ⟨⟨oi, hoi, by rw [if_pos g1]; exact g2⟩, ⟨oj, hoj, by rw [if_pos g3]; exact g4⟩, ⟨ok, hok, by rw [if_pos g5]; exact g6⟩⟩
theorem wpTri_done {a : Act} {w : World} (h : wpList P ops Q tl a w) : wpTri P ops Q S tl .done a w := h
end
end Fk

set_option linter.unusedSimpArgs false
set_option linter.unusedVariables false
namespace Go.Proofs.YthboebhghaabnaaGreatDoor
open Go.RowKit Fk Sha
/-! law 14's own sanity. -/
theorem st5c {W : World} {b : Nat} {t : TypeId} {a0 a1 a2 a3 a4 : Value} (h : Row W b t [a0, a1, a2, a3, a4]) : W.cell? ⟨b, 0, none⟩ = some a0 ∧ W.cell? ⟨b, 1, none⟩ = some a1 ∧ W.cell? ⟨b, 2, none⟩ = some a2 ∧ W.cell? ⟨b, 3, none⟩ = some a3 ∧ W.cell? ⟨b, 4, none⟩ = some a4 :=
  ⟨Row.cell h 0, Row.cell h 1, Row.cell h 2, Row.cell h 3, Row.cell h 4⟩
set_option maxRecDepth 100000 in
set_option maxHeartbeats 4000000 in
theorem sane14_any (w : World) (hT : TabS w) : Calls Tryz.prog 5 #[] w fun e w' => e = .returned (.bool true) ∧ Below w.heap.size w w' := by
  have L4 := Lib.hid fun w => letter_any 4 w
  have L16 := Lib.hid fun w => letter_any 16 w
  have hB := Below.refl w.heap.size w
  have HT := Lib.hid hT
  clear hT
  go_enter Tryz.func5, Tryz.ntmps5
  go_upto_region 2 with (first
    | (go_at_call 14; (with_reducible refine (L4.out _).mono ?_); rintro e w1 ⟨rfl, hb⟩; replace hB := hB.trans (hb.mono hB.size); clear hb)
    | (go_at_call 14; (with_reducible refine (L16.out _).mono ?_); rintro e w2 ⟨rfl, hb⟩; replace hB := hB.trans (hb.mono hB.size); clear hb))
  have hB1 := (hB.alloc hB.size (.cells #[.int .i64 4, .int .i64 4, .int .i64 1, .int .i64 1, .int .i64 1, .int .i64 1] 45)).alloc (by simp; have := hB.size; omega) (.cells #[.int .i64 16, .int .i64 16, .int .i64 1, .int .i64 1, .int .i64 1, .int .i64 1] 45)
  have r1 := (Row.new w2 45 (ltrX 4).cells).alloc (.cells #[.int .i64 16, .int .i64 16, .int .i64 1, .int .i64 1, .int .i64 1, .int .i64 1] 45)
  have r2 : Row ((w2.alloc (.cells #[.int .i64 4, .int .i64 4, .int .i64 1, .int .i64 1, .int .i64 1, .int .i64 1] 45)).alloc (.cells #[.int .i64 16, .int .i64 16, .int .i64 1, .int .i64 1, .int .i64 1, .int .i64 1] 45)) (w2.heap.size + 1) 45 (ltrX 16).cells := by have := Row.new (w2.alloc (.cells #[.int .i64 4, .int .i64 4, .int .i64 1, .int .i64 1, .int .i64 1, .int .i64 1] 45)) 45 (ltrX 16).cells; rw [show (w2.alloc (.cells #[.int .i64 4, .int .i64 4, .int .i64 1, .int .i64 1, .int .i64 1, .int .i64 1] 45)).heap.size = w2.heap.size + 1 by simp] at this; exact this
  obtain ⟨W1, hW1⟩ : ∃ W, (w2.alloc (.cells #[.int .i64 4, .int .i64 4, .int .i64 1, .int .i64 1, .int .i64 1, .int .i64 1] 45)).alloc (.cells #[.int .i64 16, .int .i64 16, .int .i64 1, .int .i64 1, .int .i64 1, .int .i64 1] 45) = W := ⟨_, rfl⟩
  replace r1 : Row W1 w2.heap.size 45 (ltrX 4).cells := hW1 ▸ r1
  rw [hW1] at hB1 r2 ⊢
  clear hW1 hB
  generalize w2.heap.size + 1 = g2 at *
  generalize w2.heap.size = g1 at *
  have kF : Kp fun W => Below w.heap.size w W ∧ Row W g1 45 (ltrX 4).cells ∧ Row W g2 45 (ltrX 16).cells := Kp.and (Kp.from w) (Kp.and Kp.row Kp.row)
  go_cut [3, 4] from 27 to 34 (fun p q W' => ∃ (G : Nat) (y : MxA), p = .pointer (some ⟨G, 0, none⟩) ∧ q = .int .i64 0 ∧ (Below w.heap.size w W' ∧ Row W' g1 45 (ltrX 4).cells ∧ Row W' g2 45 (ltrX 16).cells) ∧ Row W' G 32 [.slice y.ai 2 y.ci, .slice y.am 2 y.cm, .slice y.ao 2 y.co, .slice y.al 2 y.cl, .slice y.ar 2 y.cr] ∧ MxS W' W'.heap.size y (mixC 4 sX twT))
  case first =>
    refine wp_region_tri 10 (.take 0 (.take 1 (.three 2 (.two 3 (.two 4 (.take 5 (.take 6 (.take 7 (.one 8 (.one 9 .done))))) 8 (.one 4 (.take 5 (.take 6 (.take 7 (.one 9 .done)))))) 8 (.one 3 (.one 4 (.take 5 (.take 6 (.take 7 (.one 9 .done))))))) 3 (.two 2 (.two 4 (.take 5 (.take 6 (.take 7 (.one 8 (.one 9 .done))))) 8 (.one 4 (.take 5 (.take 6 (.take 7 (.one 9 .done)))))) 8 (.one 2 (.one 4 (.take 5 (.take 6 (.take 7 (.one 9 .done))))))) 8 (.two 2 (.one 3 (.one 4 (.take 5 (.take 6 (.take 7 (.one 9 .done)))))) 3 (.one 2 (.one 4 (.take 5 (.take 6 (.take 7 (.one 9 .done)))))))))) (fun W' => Row W' g1 45 (ltrX 4).cells ∧ Row W' g2 45 (ltrX 16).cells) (by kernel_rfl) (by kernel_rfl) (fun _ _ d _ _ h => by cases d <;> exact h) ⟨r1.below (Below.refl _ _).drew r1.lt, r2.below (Below.refl _ _).drew r2.lt⟩ ?_
    refine wpTri_take (v := .agg #[.int .i64 4, .int .i64 4, .int .i64 1, .int .i64 1, .int .i64 1, .int .i64 1]) rfl (by kernel_rfl) (fun w hSw => exec_load (ty := 45) (x := .tmp 1) (p := .pointer (some ⟨g1, 0, none⟩)) (by kernel_rfl) (by kernel_rfl) (run_loadAt_mid w g1 0 45 (ltrX 4).cells _ (range_row hSw.1) Tryz.underlying45 rfl (by kernel_rfl))) ?_
    simp only [Act.put, List.getElem_toArray, List.getElem_cons_succ, List.getElem_cons_zero, List.setIfInBounds_toArray, List.set_cons_zero, List.set_cons_succ]
    refine wpTri_take (v := .agg #[.int .i64 16, .int .i64 16, .int .i64 1, .int .i64 1, .int .i64 1, .int .i64 1]) rfl (by kernel_rfl) (fun w hSw => exec_load (ty := 45) (x := .tmp 2) (p := .pointer (some ⟨g2, 0, none⟩)) (by kernel_rfl) (by kernel_rfl) (run_loadAt_mid w g2 0 45 (ltrX 16).cells _ (range_row hSw.2) Tryz.underlying45 rfl (by kernel_rfl))) ?_
    simp only [Act.put, List.getElem_toArray, List.getElem_cons_succ, List.getElem_cons_zero, List.setIfInBounds_toArray, List.set_cons_zero, List.set_cons_succ]
    have hF : Below w.heap.size w W1.drew ∧ Row W1.drew g1 45 (ltrX 4).cells ∧ Row W1.drew g2 45 (ltrX 16).cells := ⟨hB1.trans (Below.refl _ _).drew, r1.below (Below.refl _ _).drew r1.lt, r2.below (Below.refl _ _).drew r2.lt⟩
    clear hB1 r1 r2
    generalize W1.drew = W2 at *
    refine wpTri_three rfl rfl rfl (fun K hK => ⟨by kernel_rfl, ?_⟩) (fun K hK => ⟨by kernel_rfl, ?_⟩) (fun K hK => ⟨by kernel_rfl, ?_⟩)
    · skip
      go_simp
      have hb := below_alloc' W2 (.cells #[.int .i64 4, .int .i64 4, .int .i64 1, .int .i64 1, .int .i64 1, .int .i64 1, .int .i64 16, .int .i64 16, .int .i64 1, .int .i64 1, .int .i64 1, .int .i64 1] 45)
      have hs := Row.new W2 45 [.int .i64 4, .int .i64 4, .int .i64 1, .int .i64 1, .int .i64 1, .int .i64 1, .int .i64 16, .int .i64 16, .int .i64 1, .int .i64 1, .int .i64 1, .int .i64 1]
      obtain ⟨V3, hV⟩ : ∃ V, W2.alloc (.cells #[.int .i64 4, .int .i64 4, .int .i64 1, .int .i64 1, .int .i64 1, .int .i64 1, .int .i64 16, .int .i64 16, .int .i64 1, .int .i64 1, .int .i64 1, .int .i64 1] 45) = V := ⟨_, rfl⟩
      replace hs : Row V3 W2.heap.size 45 [.int .i64 4, .int .i64 4, .int .i64 1, .int .i64 1, .int .i64 1, .int .i64 1, .int .i64 16, .int .i64 16, .int .i64 1, .int .i64 1, .int .i64 1, .int .i64 1] := hV ▸ hs
      rw [hV] at hb
      replace hF := kF hb hF
      try rw [hV]
      clear hV
      refine hK _ _ hF.2 ?_
      clear hK K hb
      try simp only [Act.put, List.getElem_toArray, List.getElem_cons_succ, List.getElem_cons_zero, List.setIfInBounds_toArray, List.set_cons_zero, List.set_cons_succ]
      generalize W2.heap.size = gS at hs ⊢
      refine wpTri_two rfl rfl (fun K hK => ⟨by kernel_rfl, ?_⟩) (fun K hK => ⟨by kernel_rfl, ?_⟩)
      · skip
        go_simp
        go_at_call 15
        refine (two_any _).mono ?_
        rintro e V4 ⟨x, rfl, hb, hx⟩
        replace hF := kF hb hF
        replace hs := hs.below hb hs.lt
        refine hK _ _ hF.2 ?_
        clear hK K hb
        try simp only [Act.put, List.getElem_toArray, List.getElem_cons_succ, List.getElem_cons_zero, List.setIfInBounds_toArray, List.set_cons_zero, List.set_cons_succ]
        refine wpTri_two rfl rfl (fun K hK => ⟨by kernel_rfl, ?_⟩) (fun K hK => ⟨by kernel_rfl, ?_⟩)
        · skip
          go_simp
          go_at_call 7
          refine (c_mk _ x gS (HT.out.below hF.1) hx hs hs.lt).mono ?_
          rintro e V5 ⟨y, rfl, hb, hy⟩
          replace hF := kF hb hF
          replace hs := hs.below hb hs.lt
          replace hx := (hx.below hb).mono hb.size
          refine hK _ _ hF.2 ?_
          clear hK K hb
          try simp only [Act.put, List.getElem_toArray, List.getElem_cons_succ, List.getElem_cons_zero, List.setIfInBounds_toArray, List.set_cons_zero, List.set_cons_succ]
          iterate 3
            refine wpTri_take (v := ?_) rfl (by kernel_rfl) (fun w hSw => ?_) ?_
            rotate_left 1
            · go_simp
              with_reducible rfl
            simp only [Act.put, List.getElem_toArray, List.getElem_cons_succ, List.getElem_cons_zero, List.setIfInBounds_toArray, List.set_cons_zero, List.set_cons_succ]
          refine wpTri_one rfl (fun K hK => ⟨by kernel_rfl, ?_⟩)
          go_simp
          have hgA : w.heap.size ≤ V5.heap.size := hF.1.size
          have n1 := hF.2.1.lt
          have n2 := hF.2.2.lt
          have hb := below_alloc' V5 (.cells #[.slice none 0 0, .slice none 0 0, .slice none 0 0, .slice none 0 0, .slice none 0 0] 32)
          have ha := Row.new V5 32 [.slice none 0 0, .slice none 0 0, .slice none 0 0, .slice none 0 0, .slice none 0 0]
          obtain ⟨V6, hV⟩ : ∃ V, V5.alloc (.cells #[.slice none 0 0, .slice none 0 0, .slice none 0 0, .slice none 0 0, .slice none 0 0] 32) = V := ⟨_, rfl⟩
          replace ha : Row V6 V5.heap.size 32 [.slice none 0 0, .slice none 0 0, .slice none 0 0, .slice none 0 0, .slice none 0 0] := hV ▸ ha
          rw [hV] at hb
          replace hF := kF hb hF
          replace hs := hs.below hb hs.lt
          replace hx := (hx.below hb).mono hb.size
          replace hy := (hy.below hb).mono hb.size
          try rw [hV]
          clear hV
          refine hK _ _ hF.2 ?_
          clear hK K hb
          try simp only [Act.put, List.getElem_toArray, List.getElem_cons_succ, List.getElem_cons_zero, List.setIfInBounds_toArray, List.set_cons_zero, List.set_cons_succ]
          generalize V5.heap.size = gA at ha hgA n1 n2 ⊢
          refine wpTri_one rfl (fun K hK => ⟨by kernel_rfl, ?_⟩)
          obtain ⟨m0, m1, m2, m3, m4⟩ := st5c ha
          have ff := fun i => Row.frozen ha i
          go_simp
          have hb : Below w.heap.size w _ := ((((((hF.1.setCell (p := ⟨gA, 0, none⟩) hgA (.slice y.ai 2 y.ci)).setCell (p := ⟨gA, 1, none⟩) hgA (.slice y.am 2 y.cm)).setCell (p := ⟨gA, 2, none⟩) hgA (.slice y.ao 2 y.co)).setCell (p := ⟨gA, 3, none⟩) hgA (.slice y.al 2 y.cl)).setCell (p := ⟨gA, 4, none⟩) hgA (.slice y.ar 2 y.cr)))
          have hr := ((((ha.store 0 (.slice y.ai 2 y.ci)).store 1 (.slice y.am 2 y.cm)).store 2 (.slice y.ao 2 y.co)).store 3 (.slice y.al 2 y.cl)).store 4 (.slice y.ar 2 y.cr)
          obtain ⟨Z, hZ⟩ : ∃ Z, (((((V6.setCell ⟨gA, 0, none⟩ (.slice y.ai 2 y.ci)).setCell ⟨gA, 1, none⟩ (.slice y.am 2 y.cm)).setCell ⟨gA, 2, none⟩ (.slice y.ao 2 y.co)).setCell ⟨gA, 3, none⟩ (.slice y.al 2 y.cl)).setCell ⟨gA, 4, none⟩ (.slice y.ar 2 y.cr)) = Z := ⟨_, rfl⟩
          rw [hZ] at hb
          replace hr : Row Z gA 32 [.slice y.ai 2 y.ci, .slice y.am 2 y.cm, .slice y.ao 2 y.co, .slice y.al 2 y.cl, .slice y.ar 2 y.cr] := hZ ▸ hr
          have hzk : ∀ k, k ≠ gA → Z.heap[k]? = V6.heap[k]? := fun k hk => by rw [← hZ, Below.heap_setCell _ _ _ k hk, Below.heap_setCell _ _ _ k hk, Below.heap_setCell _ _ _ k hk, Below.heap_setCell _ _ _ k hk, Below.heap_setCell _ _ _ k hk]
          have hzs : Z.heap.size = V6.heap.size := by rw [← hZ]; simp [World.setCell]
          have hF2 : Below w.heap.size w Z ∧ Row Z g1 45 (ltrX 4).cells ∧ Row Z g2 45 (ltrX 16).cells := ⟨hb, hF.2.1.keep (hzk _ (by omega)), hF.2.2.keep (hzk _ (by omega))⟩
          have hy2 := mx_apart hy mxok_tw ha (by intro u hu; simp at hu; exact ⟨_, _, _, hu⟩) hzk
          rw [← hzs] at hy2
          try rw [hZ]
          clear hZ
          refine hK _ _ hF2.2 ?_
          clear hK K
          refine wpTri_done ?_
          simp only [List.drop_succ_cons, List.drop_zero]
          clear m0 m1 m2 m3 m4 ff hzk hzs hs hx ha hy hF hb
          go_wp2_with fail
          go_meet
          exact ⟨gA, y, rfl, rfl, hF2, hr, hy2⟩
        · skip
          go_simp
          have hgA : w.heap.size ≤ V4.heap.size := hF.1.size
          have n1 := hF.2.1.lt
          have n2 := hF.2.2.lt
          have hb := below_alloc' V4 (.cells #[.slice none 0 0, .slice none 0 0, .slice none 0 0, .slice none 0 0, .slice none 0 0] 32)
          have ha := Row.new V4 32 [.slice none 0 0, .slice none 0 0, .slice none 0 0, .slice none 0 0, .slice none 0 0]
          obtain ⟨V5, hV⟩ : ∃ V, V4.alloc (.cells #[.slice none 0 0, .slice none 0 0, .slice none 0 0, .slice none 0 0, .slice none 0 0] 32) = V := ⟨_, rfl⟩
          replace ha : Row V5 V4.heap.size 32 [.slice none 0 0, .slice none 0 0, .slice none 0 0, .slice none 0 0, .slice none 0 0] := hV ▸ ha
          rw [hV] at hb
          replace hF := kF hb hF
          replace hs := hs.below hb hs.lt
          replace hx := (hx.below hb).mono hb.size
          try rw [hV]
          clear hV
          refine hK _ _ hF.2 ?_
          clear hK K hb
          try simp only [Act.put, List.getElem_toArray, List.getElem_cons_succ, List.getElem_cons_zero, List.setIfInBounds_toArray, List.set_cons_zero, List.set_cons_succ]
          generalize V4.heap.size = gA at ha hgA n1 n2 ⊢
          refine wpTri_one rfl (fun K hK => ⟨by kernel_rfl, ?_⟩)
          go_simp
          go_at_call 7
          refine (c_mk _ x gS (HT.out.below hF.1) hx hs hs.lt).mono ?_
          rintro e V6 ⟨y, rfl, hb, hy⟩
          replace hF := kF hb hF
          replace hs := hs.below hb hs.lt
          replace hx := (hx.below hb).mono hb.size
          replace ha := ha.below hb ha.lt
          refine hK _ _ hF.2 ?_
          clear hK K hb
          try simp only [Act.put, List.getElem_toArray, List.getElem_cons_succ, List.getElem_cons_zero, List.setIfInBounds_toArray, List.set_cons_zero, List.set_cons_succ]
          iterate 3
            refine wpTri_take (v := ?_) rfl (by kernel_rfl) (fun w hSw => ?_) ?_
            rotate_left 1
            · go_simp
              with_reducible rfl
            simp only [Act.put, List.getElem_toArray, List.getElem_cons_succ, List.getElem_cons_zero, List.setIfInBounds_toArray, List.set_cons_zero, List.set_cons_succ]
          refine wpTri_one rfl (fun K hK => ⟨by kernel_rfl, ?_⟩)
          obtain ⟨m0, m1, m2, m3, m4⟩ := st5c ha
          have ff := fun i => Row.frozen ha i
          go_simp
          have hb : Below w.heap.size w _ := ((((((hF.1.setCell (p := ⟨gA, 0, none⟩) hgA (.slice y.ai 2 y.ci)).setCell (p := ⟨gA, 1, none⟩) hgA (.slice y.am 2 y.cm)).setCell (p := ⟨gA, 2, none⟩) hgA (.slice y.ao 2 y.co)).setCell (p := ⟨gA, 3, none⟩) hgA (.slice y.al 2 y.cl)).setCell (p := ⟨gA, 4, none⟩) hgA (.slice y.ar 2 y.cr)))
          have hr := ((((ha.store 0 (.slice y.ai 2 y.ci)).store 1 (.slice y.am 2 y.cm)).store 2 (.slice y.ao 2 y.co)).store 3 (.slice y.al 2 y.cl)).store 4 (.slice y.ar 2 y.cr)
          obtain ⟨Z, hZ⟩ : ∃ Z, (((((V6.setCell ⟨gA, 0, none⟩ (.slice y.ai 2 y.ci)).setCell ⟨gA, 1, none⟩ (.slice y.am 2 y.cm)).setCell ⟨gA, 2, none⟩ (.slice y.ao 2 y.co)).setCell ⟨gA, 3, none⟩ (.slice y.al 2 y.cl)).setCell ⟨gA, 4, none⟩ (.slice y.ar 2 y.cr)) = Z := ⟨_, rfl⟩
          rw [hZ] at hb
          replace hr : Row Z gA 32 [.slice y.ai 2 y.ci, .slice y.am 2 y.cm, .slice y.ao 2 y.co, .slice y.al 2 y.cl, .slice y.ar 2 y.cr] := hZ ▸ hr
          have hzk : ∀ k, k ≠ gA → Z.heap[k]? = V6.heap[k]? := fun k hk => by rw [← hZ, Below.heap_setCell _ _ _ k hk, Below.heap_setCell _ _ _ k hk, Below.heap_setCell _ _ _ k hk, Below.heap_setCell _ _ _ k hk, Below.heap_setCell _ _ _ k hk]
          have hzs : Z.heap.size = V6.heap.size := by rw [← hZ]; simp [World.setCell]
          have hF2 : Below w.heap.size w Z ∧ Row Z g1 45 (ltrX 4).cells ∧ Row Z g2 45 (ltrX 16).cells := ⟨hb, hF.2.1.keep (hzk _ (by omega)), hF.2.2.keep (hzk _ (by omega))⟩
          have hy2 := mx_apart hy mxok_tw ha (by intro u hu; simp at hu; exact ⟨_, _, _, hu⟩) hzk
          rw [← hzs] at hy2
          try rw [hZ]
          clear hZ
          refine hK _ _ hF2.2 ?_
          clear hK K
          refine wpTri_done ?_
          simp only [List.drop_succ_cons, List.drop_zero]
          clear m0 m1 m2 m3 m4 ff hzk hzs hs hx ha hy hF hb
          go_wp2_with fail
          go_meet
          exact ⟨gA, y, rfl, rfl, hF2, hr, hy2⟩
      · skip
        go_simp
        have hgA : w.heap.size ≤ V3.heap.size := hF.1.size
        have n1 := hF.2.1.lt
        have n2 := hF.2.2.lt
        have hb := below_alloc' V3 (.cells #[.slice none 0 0, .slice none 0 0, .slice none 0 0, .slice none 0 0, .slice none 0 0] 32)
        have ha := Row.new V3 32 [.slice none 0 0, .slice none 0 0, .slice none 0 0, .slice none 0 0, .slice none 0 0]
        obtain ⟨V4, hV⟩ : ∃ V, V3.alloc (.cells #[.slice none 0 0, .slice none 0 0, .slice none 0 0, .slice none 0 0, .slice none 0 0] 32) = V := ⟨_, rfl⟩
        replace ha : Row V4 V3.heap.size 32 [.slice none 0 0, .slice none 0 0, .slice none 0 0, .slice none 0 0, .slice none 0 0] := hV ▸ ha
        rw [hV] at hb
        replace hF := kF hb hF
        replace hs := hs.below hb hs.lt
        try rw [hV]
        clear hV
        refine hK _ _ hF.2 ?_
        clear hK K hb
        try simp only [Act.put, List.getElem_toArray, List.getElem_cons_succ, List.getElem_cons_zero, List.setIfInBounds_toArray, List.set_cons_zero, List.set_cons_succ]
        generalize V3.heap.size = gA at ha hgA n1 n2 ⊢
        refine wpTri_one rfl (fun K hK => ⟨by kernel_rfl, ?_⟩)
        go_simp
        go_at_call 15
        refine (two_any _).mono ?_
        rintro e V5 ⟨x, rfl, hb, hx⟩
        replace hF := kF hb hF
        replace hs := hs.below hb hs.lt
        replace ha := ha.below hb ha.lt
        refine hK _ _ hF.2 ?_
        clear hK K hb
        try simp only [Act.put, List.getElem_toArray, List.getElem_cons_succ, List.getElem_cons_zero, List.setIfInBounds_toArray, List.set_cons_zero, List.set_cons_succ]
        refine wpTri_one rfl (fun K hK => ⟨by kernel_rfl, ?_⟩)
        go_simp
        go_at_call 7
        refine (c_mk _ x gS (HT.out.below hF.1) hx hs hs.lt).mono ?_
        rintro e V6 ⟨y, rfl, hb, hy⟩
        replace hF := kF hb hF
        replace hs := hs.below hb hs.lt
        replace hx := (hx.below hb).mono hb.size
        replace ha := ha.below hb ha.lt
        refine hK _ _ hF.2 ?_
        clear hK K hb
        try simp only [Act.put, List.getElem_toArray, List.getElem_cons_succ, List.getElem_cons_zero, List.setIfInBounds_toArray, List.set_cons_zero, List.set_cons_succ]
        iterate 3
          refine wpTri_take (v := ?_) rfl (by kernel_rfl) (fun w hSw => ?_) ?_
          rotate_left 1
          · go_simp
            with_reducible rfl
          simp only [Act.put, List.getElem_toArray, List.getElem_cons_succ, List.getElem_cons_zero, List.setIfInBounds_toArray, List.set_cons_zero, List.set_cons_succ]
        refine wpTri_one rfl (fun K hK => ⟨by kernel_rfl, ?_⟩)
        obtain ⟨m0, m1, m2, m3, m4⟩ := st5c ha
        have ff := fun i => Row.frozen ha i
        go_simp
        have hb : Below w.heap.size w _ := ((((((hF.1.setCell (p := ⟨gA, 0, none⟩) hgA (.slice y.ai 2 y.ci)).setCell (p := ⟨gA, 1, none⟩) hgA (.slice y.am 2 y.cm)).setCell (p := ⟨gA, 2, none⟩) hgA (.slice y.ao 2 y.co)).setCell (p := ⟨gA, 3, none⟩) hgA (.slice y.al 2 y.cl)).setCell (p := ⟨gA, 4, none⟩) hgA (.slice y.ar 2 y.cr)))
        have hr := ((((ha.store 0 (.slice y.ai 2 y.ci)).store 1 (.slice y.am 2 y.cm)).store 2 (.slice y.ao 2 y.co)).store 3 (.slice y.al 2 y.cl)).store 4 (.slice y.ar 2 y.cr)
        obtain ⟨Z, hZ⟩ : ∃ Z, (((((V6.setCell ⟨gA, 0, none⟩ (.slice y.ai 2 y.ci)).setCell ⟨gA, 1, none⟩ (.slice y.am 2 y.cm)).setCell ⟨gA, 2, none⟩ (.slice y.ao 2 y.co)).setCell ⟨gA, 3, none⟩ (.slice y.al 2 y.cl)).setCell ⟨gA, 4, none⟩ (.slice y.ar 2 y.cr)) = Z := ⟨_, rfl⟩
        rw [hZ] at hb
        replace hr : Row Z gA 32 [.slice y.ai 2 y.ci, .slice y.am 2 y.cm, .slice y.ao 2 y.co, .slice y.al 2 y.cl, .slice y.ar 2 y.cr] := hZ ▸ hr
        have hzk : ∀ k, k ≠ gA → Z.heap[k]? = V6.heap[k]? := fun k hk => by rw [← hZ, Below.heap_setCell _ _ _ k hk, Below.heap_setCell _ _ _ k hk, Below.heap_setCell _ _ _ k hk, Below.heap_setCell _ _ _ k hk, Below.heap_setCell _ _ _ k hk]
        have hzs : Z.heap.size = V6.heap.size := by rw [← hZ]; simp [World.setCell]
        have hF2 : Below w.heap.size w Z ∧ Row Z g1 45 (ltrX 4).cells ∧ Row Z g2 45 (ltrX 16).cells := ⟨hb, hF.2.1.keep (hzk _ (by omega)), hF.2.2.keep (hzk _ (by omega))⟩
        have hy2 := mx_apart hy mxok_tw ha (by intro u hu; simp at hu; exact ⟨_, _, _, hu⟩) hzk
        rw [← hzs] at hy2
        try rw [hZ]
        clear hZ
        refine hK _ _ hF2.2 ?_
        clear hK K
        refine wpTri_done ?_
        simp only [List.drop_succ_cons, List.drop_zero]
        clear m0 m1 m2 m3 m4 ff hzk hzs hs hx ha hy hF hb
        go_wp2_with fail
        go_meet
        exact ⟨gA, y, rfl, rfl, hF2, hr, hy2⟩
    · skip
      go_simp
      go_at_call 15
      refine (two_any _).mono ?_
      rintro e V3 ⟨x, rfl, hb, hx⟩
      replace hF := kF hb hF
      refine hK _ _ hF.2 ?_
      clear hK K hb
      try simp only [Act.put, List.getElem_toArray, List.getElem_cons_succ, List.getElem_cons_zero, List.setIfInBounds_toArray, List.set_cons_zero, List.set_cons_succ]
      refine wpTri_two rfl rfl (fun K hK => ⟨by kernel_rfl, ?_⟩) (fun K hK => ⟨by kernel_rfl, ?_⟩)
      · skip
        go_simp
        have hb := below_alloc' V3 (.cells #[.int .i64 4, .int .i64 4, .int .i64 1, .int .i64 1, .int .i64 1, .int .i64 1, .int .i64 16, .int .i64 16, .int .i64 1, .int .i64 1, .int .i64 1, .int .i64 1] 45)
        have hs := Row.new V3 45 [.int .i64 4, .int .i64 4, .int .i64 1, .int .i64 1, .int .i64 1, .int .i64 1, .int .i64 16, .int .i64 16, .int .i64 1, .int .i64 1, .int .i64 1, .int .i64 1]
        obtain ⟨V4, hV⟩ : ∃ V, V3.alloc (.cells #[.int .i64 4, .int .i64 4, .int .i64 1, .int .i64 1, .int .i64 1, .int .i64 1, .int .i64 16, .int .i64 16, .int .i64 1, .int .i64 1, .int .i64 1, .int .i64 1] 45) = V := ⟨_, rfl⟩
        replace hs : Row V4 V3.heap.size 45 [.int .i64 4, .int .i64 4, .int .i64 1, .int .i64 1, .int .i64 1, .int .i64 1, .int .i64 16, .int .i64 16, .int .i64 1, .int .i64 1, .int .i64 1, .int .i64 1] := hV ▸ hs
        rw [hV] at hb
        replace hF := kF hb hF
        replace hx := (hx.below hb).mono hb.size
        try rw [hV]
        clear hV
        refine hK _ _ hF.2 ?_
        clear hK K hb
        try simp only [Act.put, List.getElem_toArray, List.getElem_cons_succ, List.getElem_cons_zero, List.setIfInBounds_toArray, List.set_cons_zero, List.set_cons_succ]
        generalize V3.heap.size = gS at hs ⊢
        refine wpTri_two rfl rfl (fun K hK => ⟨by kernel_rfl, ?_⟩) (fun K hK => ⟨by kernel_rfl, ?_⟩)
        · skip
          go_simp
          go_at_call 7
          refine (c_mk _ x gS (HT.out.below hF.1) hx hs hs.lt).mono ?_
          rintro e V5 ⟨y, rfl, hb, hy⟩
          replace hF := kF hb hF
          replace hs := hs.below hb hs.lt
          replace hx := (hx.below hb).mono hb.size
          refine hK _ _ hF.2 ?_
          clear hK K hb
          try simp only [Act.put, List.getElem_toArray, List.getElem_cons_succ, List.getElem_cons_zero, List.setIfInBounds_toArray, List.set_cons_zero, List.set_cons_succ]
          iterate 3
            refine wpTri_take (v := ?_) rfl (by kernel_rfl) (fun w hSw => ?_) ?_
            rotate_left 1
            · go_simp
              with_reducible rfl
            simp only [Act.put, List.getElem_toArray, List.getElem_cons_succ, List.getElem_cons_zero, List.setIfInBounds_toArray, List.set_cons_zero, List.set_cons_succ]
          refine wpTri_one rfl (fun K hK => ⟨by kernel_rfl, ?_⟩)
          go_simp
          have hgA : w.heap.size ≤ V5.heap.size := hF.1.size
          have n1 := hF.2.1.lt
          have n2 := hF.2.2.lt
          have hb := below_alloc' V5 (.cells #[.slice none 0 0, .slice none 0 0, .slice none 0 0, .slice none 0 0, .slice none 0 0] 32)
          have ha := Row.new V5 32 [.slice none 0 0, .slice none 0 0, .slice none 0 0, .slice none 0 0, .slice none 0 0]
          obtain ⟨V6, hV⟩ : ∃ V, V5.alloc (.cells #[.slice none 0 0, .slice none 0 0, .slice none 0 0, .slice none 0 0, .slice none 0 0] 32) = V := ⟨_, rfl⟩
          replace ha : Row V6 V5.heap.size 32 [.slice none 0 0, .slice none 0 0, .slice none 0 0, .slice none 0 0, .slice none 0 0] := hV ▸ ha
          rw [hV] at hb
          replace hF := kF hb hF
          replace hs := hs.below hb hs.lt
          replace hx := (hx.below hb).mono hb.size
          replace hy := (hy.below hb).mono hb.size
          try rw [hV]
          clear hV
          refine hK _ _ hF.2 ?_
          clear hK K hb
          try simp only [Act.put, List.getElem_toArray, List.getElem_cons_succ, List.getElem_cons_zero, List.setIfInBounds_toArray, List.set_cons_zero, List.set_cons_succ]
          generalize V5.heap.size = gA at ha hgA n1 n2 ⊢
          refine wpTri_one rfl (fun K hK => ⟨by kernel_rfl, ?_⟩)
          obtain ⟨m0, m1, m2, m3, m4⟩ := st5c ha
          have ff := fun i => Row.frozen ha i
          go_simp
          have hb : Below w.heap.size w _ := ((((((hF.1.setCell (p := ⟨gA, 0, none⟩) hgA (.slice y.ai 2 y.ci)).setCell (p := ⟨gA, 1, none⟩) hgA (.slice y.am 2 y.cm)).setCell (p := ⟨gA, 2, none⟩) hgA (.slice y.ao 2 y.co)).setCell (p := ⟨gA, 3, none⟩) hgA (.slice y.al 2 y.cl)).setCell (p := ⟨gA, 4, none⟩) hgA (.slice y.ar 2 y.cr)))
          have hr := ((((ha.store 0 (.slice y.ai 2 y.ci)).store 1 (.slice y.am 2 y.cm)).store 2 (.slice y.ao 2 y.co)).store 3 (.slice y.al 2 y.cl)).store 4 (.slice y.ar 2 y.cr)
          obtain ⟨Z, hZ⟩ : ∃ Z, (((((V6.setCell ⟨gA, 0, none⟩ (.slice y.ai 2 y.ci)).setCell ⟨gA, 1, none⟩ (.slice y.am 2 y.cm)).setCell ⟨gA, 2, none⟩ (.slice y.ao 2 y.co)).setCell ⟨gA, 3, none⟩ (.slice y.al 2 y.cl)).setCell ⟨gA, 4, none⟩ (.slice y.ar 2 y.cr)) = Z := ⟨_, rfl⟩
          rw [hZ] at hb
          replace hr : Row Z gA 32 [.slice y.ai 2 y.ci, .slice y.am 2 y.cm, .slice y.ao 2 y.co, .slice y.al 2 y.cl, .slice y.ar 2 y.cr] := hZ ▸ hr
          have hzk : ∀ k, k ≠ gA → Z.heap[k]? = V6.heap[k]? := fun k hk => by rw [← hZ, Below.heap_setCell _ _ _ k hk, Below.heap_setCell _ _ _ k hk, Below.heap_setCell _ _ _ k hk, Below.heap_setCell _ _ _ k hk, Below.heap_setCell _ _ _ k hk]
          have hzs : Z.heap.size = V6.heap.size := by rw [← hZ]; simp [World.setCell]
          have hF2 : Below w.heap.size w Z ∧ Row Z g1 45 (ltrX 4).cells ∧ Row Z g2 45 (ltrX 16).cells := ⟨hb, hF.2.1.keep (hzk _ (by omega)), hF.2.2.keep (hzk _ (by omega))⟩
          have hy2 := mx_apart hy mxok_tw ha (by intro u hu; simp at hu; exact ⟨_, _, _, hu⟩) hzk
          rw [← hzs] at hy2
          try rw [hZ]
          clear hZ
          refine hK _ _ hF2.2 ?_
          clear hK K
          refine wpTri_done ?_
          simp only [List.drop_succ_cons, List.drop_zero]
          clear m0 m1 m2 m3 m4 ff hzk hzs hs hx ha hy hF hb
          go_wp2_with fail
          go_meet
          exact ⟨gA, y, rfl, rfl, hF2, hr, hy2⟩
        · skip
          go_simp
          have hgA : w.heap.size ≤ V4.heap.size := hF.1.size
          have n1 := hF.2.1.lt
          have n2 := hF.2.2.lt
          have hb := below_alloc' V4 (.cells #[.slice none 0 0, .slice none 0 0, .slice none 0 0, .slice none 0 0, .slice none 0 0] 32)
          have ha := Row.new V4 32 [.slice none 0 0, .slice none 0 0, .slice none 0 0, .slice none 0 0, .slice none 0 0]
          obtain ⟨V5, hV⟩ : ∃ V, V4.alloc (.cells #[.slice none 0 0, .slice none 0 0, .slice none 0 0, .slice none 0 0, .slice none 0 0] 32) = V := ⟨_, rfl⟩
          replace ha : Row V5 V4.heap.size 32 [.slice none 0 0, .slice none 0 0, .slice none 0 0, .slice none 0 0, .slice none 0 0] := hV ▸ ha
          rw [hV] at hb
          replace hF := kF hb hF
          replace hs := hs.below hb hs.lt
          replace hx := (hx.below hb).mono hb.size
          try rw [hV]
          clear hV
          refine hK _ _ hF.2 ?_
          clear hK K hb
          try simp only [Act.put, List.getElem_toArray, List.getElem_cons_succ, List.getElem_cons_zero, List.setIfInBounds_toArray, List.set_cons_zero, List.set_cons_succ]
          generalize V4.heap.size = gA at ha hgA n1 n2 ⊢
          refine wpTri_one rfl (fun K hK => ⟨by kernel_rfl, ?_⟩)
          go_simp
          go_at_call 7
          refine (c_mk _ x gS (HT.out.below hF.1) hx hs hs.lt).mono ?_
          rintro e V6 ⟨y, rfl, hb, hy⟩
          replace hF := kF hb hF
          replace hs := hs.below hb hs.lt
          replace hx := (hx.below hb).mono hb.size
          replace ha := ha.below hb ha.lt
          refine hK _ _ hF.2 ?_
          clear hK K hb
          try simp only [Act.put, List.getElem_toArray, List.getElem_cons_succ, List.getElem_cons_zero, List.setIfInBounds_toArray, List.set_cons_zero, List.set_cons_succ]
          iterate 3
            refine wpTri_take (v := ?_) rfl (by kernel_rfl) (fun w hSw => ?_) ?_
            rotate_left 1
            · go_simp
              with_reducible rfl
            simp only [Act.put, List.getElem_toArray, List.getElem_cons_succ, List.getElem_cons_zero, List.setIfInBounds_toArray, List.set_cons_zero, List.set_cons_succ]
          refine wpTri_one rfl (fun K hK => ⟨by kernel_rfl, ?_⟩)
          obtain ⟨m0, m1, m2, m3, m4⟩ := st5c ha
          have ff := fun i => Row.frozen ha i
          go_simp
          have hb : Below w.heap.size w _ := ((((((hF.1.setCell (p := ⟨gA, 0, none⟩) hgA (.slice y.ai 2 y.ci)).setCell (p := ⟨gA, 1, none⟩) hgA (.slice y.am 2 y.cm)).setCell (p := ⟨gA, 2, none⟩) hgA (.slice y.ao 2 y.co)).setCell (p := ⟨gA, 3, none⟩) hgA (.slice y.al 2 y.cl)).setCell (p := ⟨gA, 4, none⟩) hgA (.slice y.ar 2 y.cr)))
          have hr := ((((ha.store 0 (.slice y.ai 2 y.ci)).store 1 (.slice y.am 2 y.cm)).store 2 (.slice y.ao 2 y.co)).store 3 (.slice y.al 2 y.cl)).store 4 (.slice y.ar 2 y.cr)
          obtain ⟨Z, hZ⟩ : ∃ Z, (((((V6.setCell ⟨gA, 0, none⟩ (.slice y.ai 2 y.ci)).setCell ⟨gA, 1, none⟩ (.slice y.am 2 y.cm)).setCell ⟨gA, 2, none⟩ (.slice y.ao 2 y.co)).setCell ⟨gA, 3, none⟩ (.slice y.al 2 y.cl)).setCell ⟨gA, 4, none⟩ (.slice y.ar 2 y.cr)) = Z := ⟨_, rfl⟩
          rw [hZ] at hb
          replace hr : Row Z gA 32 [.slice y.ai 2 y.ci, .slice y.am 2 y.cm, .slice y.ao 2 y.co, .slice y.al 2 y.cl, .slice y.ar 2 y.cr] := hZ ▸ hr
          have hzk : ∀ k, k ≠ gA → Z.heap[k]? = V6.heap[k]? := fun k hk => by rw [← hZ, Below.heap_setCell _ _ _ k hk, Below.heap_setCell _ _ _ k hk, Below.heap_setCell _ _ _ k hk, Below.heap_setCell _ _ _ k hk, Below.heap_setCell _ _ _ k hk]
          have hzs : Z.heap.size = V6.heap.size := by rw [← hZ]; simp [World.setCell]
          have hF2 : Below w.heap.size w Z ∧ Row Z g1 45 (ltrX 4).cells ∧ Row Z g2 45 (ltrX 16).cells := ⟨hb, hF.2.1.keep (hzk _ (by omega)), hF.2.2.keep (hzk _ (by omega))⟩
          have hy2 := mx_apart hy mxok_tw ha (by intro u hu; simp at hu; exact ⟨_, _, _, hu⟩) hzk
          rw [← hzs] at hy2
          try rw [hZ]
          clear hZ
          refine hK _ _ hF2.2 ?_
          clear hK K
          refine wpTri_done ?_
          simp only [List.drop_succ_cons, List.drop_zero]
          clear m0 m1 m2 m3 m4 ff hzk hzs hs hx ha hy hF hb
          go_wp2_with fail
          go_meet
          exact ⟨gA, y, rfl, rfl, hF2, hr, hy2⟩
      · skip
        go_simp
        have hgA : w.heap.size ≤ V3.heap.size := hF.1.size
        have n1 := hF.2.1.lt
        have n2 := hF.2.2.lt
        have hb := below_alloc' V3 (.cells #[.slice none 0 0, .slice none 0 0, .slice none 0 0, .slice none 0 0, .slice none 0 0] 32)
        have ha := Row.new V3 32 [.slice none 0 0, .slice none 0 0, .slice none 0 0, .slice none 0 0, .slice none 0 0]
        obtain ⟨V4, hV⟩ : ∃ V, V3.alloc (.cells #[.slice none 0 0, .slice none 0 0, .slice none 0 0, .slice none 0 0, .slice none 0 0] 32) = V := ⟨_, rfl⟩
        replace ha : Row V4 V3.heap.size 32 [.slice none 0 0, .slice none 0 0, .slice none 0 0, .slice none 0 0, .slice none 0 0] := hV ▸ ha
        rw [hV] at hb
        replace hF := kF hb hF
        replace hx := (hx.below hb).mono hb.size
        try rw [hV]
        clear hV
        refine hK _ _ hF.2 ?_
        clear hK K hb
        try simp only [Act.put, List.getElem_toArray, List.getElem_cons_succ, List.getElem_cons_zero, List.setIfInBounds_toArray, List.set_cons_zero, List.set_cons_succ]
        generalize V3.heap.size = gA at ha hgA n1 n2 ⊢
        refine wpTri_one rfl (fun K hK => ⟨by kernel_rfl, ?_⟩)
        go_simp
        have hb := below_alloc' V4 (.cells #[.int .i64 4, .int .i64 4, .int .i64 1, .int .i64 1, .int .i64 1, .int .i64 1, .int .i64 16, .int .i64 16, .int .i64 1, .int .i64 1, .int .i64 1, .int .i64 1] 45)
        have hs := Row.new V4 45 [.int .i64 4, .int .i64 4, .int .i64 1, .int .i64 1, .int .i64 1, .int .i64 1, .int .i64 16, .int .i64 16, .int .i64 1, .int .i64 1, .int .i64 1, .int .i64 1]
        obtain ⟨V5, hV⟩ : ∃ V, V4.alloc (.cells #[.int .i64 4, .int .i64 4, .int .i64 1, .int .i64 1, .int .i64 1, .int .i64 1, .int .i64 16, .int .i64 16, .int .i64 1, .int .i64 1, .int .i64 1, .int .i64 1] 45) = V := ⟨_, rfl⟩
        replace hs : Row V5 V4.heap.size 45 [.int .i64 4, .int .i64 4, .int .i64 1, .int .i64 1, .int .i64 1, .int .i64 1, .int .i64 16, .int .i64 16, .int .i64 1, .int .i64 1, .int .i64 1, .int .i64 1] := hV ▸ hs
        rw [hV] at hb
        replace hF := kF hb hF
        replace hx := (hx.below hb).mono hb.size
        replace ha := ha.below hb ha.lt
        try rw [hV]
        clear hV
        refine hK _ _ hF.2 ?_
        clear hK K hb
        try simp only [Act.put, List.getElem_toArray, List.getElem_cons_succ, List.getElem_cons_zero, List.setIfInBounds_toArray, List.set_cons_zero, List.set_cons_succ]
        generalize V4.heap.size = gS at hs ⊢
        refine wpTri_one rfl (fun K hK => ⟨by kernel_rfl, ?_⟩)
        go_simp
        go_at_call 7
        refine (c_mk _ x gS (HT.out.below hF.1) hx hs hs.lt).mono ?_
        rintro e V6 ⟨y, rfl, hb, hy⟩
        replace hF := kF hb hF
        replace hs := hs.below hb hs.lt
        replace hx := (hx.below hb).mono hb.size
        replace ha := ha.below hb ha.lt
        refine hK _ _ hF.2 ?_
        clear hK K hb
        try simp only [Act.put, List.getElem_toArray, List.getElem_cons_succ, List.getElem_cons_zero, List.setIfInBounds_toArray, List.set_cons_zero, List.set_cons_succ]
        iterate 3
          refine wpTri_take (v := ?_) rfl (by kernel_rfl) (fun w hSw => ?_) ?_
          rotate_left 1
          · go_simp
            with_reducible rfl
          simp only [Act.put, List.getElem_toArray, List.getElem_cons_succ, List.getElem_cons_zero, List.setIfInBounds_toArray, List.set_cons_zero, List.set_cons_succ]
        refine wpTri_one rfl (fun K hK => ⟨by kernel_rfl, ?_⟩)
        obtain ⟨m0, m1, m2, m3, m4⟩ := st5c ha
        have ff := fun i => Row.frozen ha i
        go_simp
        have hb : Below w.heap.size w _ := ((((((hF.1.setCell (p := ⟨gA, 0, none⟩) hgA (.slice y.ai 2 y.ci)).setCell (p := ⟨gA, 1, none⟩) hgA (.slice y.am 2 y.cm)).setCell (p := ⟨gA, 2, none⟩) hgA (.slice y.ao 2 y.co)).setCell (p := ⟨gA, 3, none⟩) hgA (.slice y.al 2 y.cl)).setCell (p := ⟨gA, 4, none⟩) hgA (.slice y.ar 2 y.cr)))
        have hr := ((((ha.store 0 (.slice y.ai 2 y.ci)).store 1 (.slice y.am 2 y.cm)).store 2 (.slice y.ao 2 y.co)).store 3 (.slice y.al 2 y.cl)).store 4 (.slice y.ar 2 y.cr)
        obtain ⟨Z, hZ⟩ : ∃ Z, (((((V6.setCell ⟨gA, 0, none⟩ (.slice y.ai 2 y.ci)).setCell ⟨gA, 1, none⟩ (.slice y.am 2 y.cm)).setCell ⟨gA, 2, none⟩ (.slice y.ao 2 y.co)).setCell ⟨gA, 3, none⟩ (.slice y.al 2 y.cl)).setCell ⟨gA, 4, none⟩ (.slice y.ar 2 y.cr)) = Z := ⟨_, rfl⟩
        rw [hZ] at hb
        replace hr : Row Z gA 32 [.slice y.ai 2 y.ci, .slice y.am 2 y.cm, .slice y.ao 2 y.co, .slice y.al 2 y.cl, .slice y.ar 2 y.cr] := hZ ▸ hr
        have hzk : ∀ k, k ≠ gA → Z.heap[k]? = V6.heap[k]? := fun k hk => by rw [← hZ, Below.heap_setCell _ _ _ k hk, Below.heap_setCell _ _ _ k hk, Below.heap_setCell _ _ _ k hk, Below.heap_setCell _ _ _ k hk, Below.heap_setCell _ _ _ k hk]
        have hzs : Z.heap.size = V6.heap.size := by rw [← hZ]; simp [World.setCell]
        have hF2 : Below w.heap.size w Z ∧ Row Z g1 45 (ltrX 4).cells ∧ Row Z g2 45 (ltrX 16).cells := ⟨hb, hF.2.1.keep (hzk _ (by omega)), hF.2.2.keep (hzk _ (by omega))⟩
        have hy2 := mx_apart hy mxok_tw ha (by intro u hu; simp at hu; exact ⟨_, _, _, hu⟩) hzk
        rw [← hzs] at hy2
        try rw [hZ]
        clear hZ
        refine hK _ _ hF2.2 ?_
        clear hK K
        refine wpTri_done ?_
        simp only [List.drop_succ_cons, List.drop_zero]
        clear m0 m1 m2 m3 m4 ff hzk hzs hs hx ha hy hF hb
        go_wp2_with fail
        go_meet
        exact ⟨gA, y, rfl, rfl, hF2, hr, hy2⟩
    · skip
      go_simp
      have hgA : w.heap.size ≤ W2.heap.size := hF.1.size
      have n1 := hF.2.1.lt
      have n2 := hF.2.2.lt
      have hb := below_alloc' W2 (.cells #[.slice none 0 0, .slice none 0 0, .slice none 0 0, .slice none 0 0, .slice none 0 0] 32)
      have ha := Row.new W2 32 [.slice none 0 0, .slice none 0 0, .slice none 0 0, .slice none 0 0, .slice none 0 0]
      obtain ⟨V3, hV⟩ : ∃ V, W2.alloc (.cells #[.slice none 0 0, .slice none 0 0, .slice none 0 0, .slice none 0 0, .slice none 0 0] 32) = V := ⟨_, rfl⟩
      replace ha : Row V3 W2.heap.size 32 [.slice none 0 0, .slice none 0 0, .slice none 0 0, .slice none 0 0, .slice none 0 0] := hV ▸ ha
      rw [hV] at hb
      replace hF := kF hb hF
      try rw [hV]
      clear hV
      refine hK _ _ hF.2 ?_
      clear hK K hb
      try simp only [Act.put, List.getElem_toArray, List.getElem_cons_succ, List.getElem_cons_zero, List.setIfInBounds_toArray, List.set_cons_zero, List.set_cons_succ]
      generalize W2.heap.size = gA at ha hgA n1 n2 ⊢
      refine wpTri_two rfl rfl (fun K hK => ⟨by kernel_rfl, ?_⟩) (fun K hK => ⟨by kernel_rfl, ?_⟩)
      · skip
        go_simp
        have hb := below_alloc' V3 (.cells #[.int .i64 4, .int .i64 4, .int .i64 1, .int .i64 1, .int .i64 1, .int .i64 1, .int .i64 16, .int .i64 16, .int .i64 1, .int .i64 1, .int .i64 1, .int .i64 1] 45)
        have hs := Row.new V3 45 [.int .i64 4, .int .i64 4, .int .i64 1, .int .i64 1, .int .i64 1, .int .i64 1, .int .i64 16, .int .i64 16, .int .i64 1, .int .i64 1, .int .i64 1, .int .i64 1]
        obtain ⟨V4, hV⟩ : ∃ V, V3.alloc (.cells #[.int .i64 4, .int .i64 4, .int .i64 1, .int .i64 1, .int .i64 1, .int .i64 1, .int .i64 16, .int .i64 16, .int .i64 1, .int .i64 1, .int .i64 1, .int .i64 1] 45) = V := ⟨_, rfl⟩
        replace hs : Row V4 V3.heap.size 45 [.int .i64 4, .int .i64 4, .int .i64 1, .int .i64 1, .int .i64 1, .int .i64 1, .int .i64 16, .int .i64 16, .int .i64 1, .int .i64 1, .int .i64 1, .int .i64 1] := hV ▸ hs
        rw [hV] at hb
        replace hF := kF hb hF
        replace ha := ha.below hb ha.lt
        try rw [hV]
        clear hV
        refine hK _ _ hF.2 ?_
        clear hK K hb
        try simp only [Act.put, List.getElem_toArray, List.getElem_cons_succ, List.getElem_cons_zero, List.setIfInBounds_toArray, List.set_cons_zero, List.set_cons_succ]
        generalize V3.heap.size = gS at hs ⊢
        refine wpTri_one rfl (fun K hK => ⟨by kernel_rfl, ?_⟩)
        go_simp
        go_at_call 15
        refine (two_any _).mono ?_
        rintro e V5 ⟨x, rfl, hb, hx⟩
        replace hF := kF hb hF
        replace hs := hs.below hb hs.lt
        replace ha := ha.below hb ha.lt
        refine hK _ _ hF.2 ?_
        clear hK K hb
        try simp only [Act.put, List.getElem_toArray, List.getElem_cons_succ, List.getElem_cons_zero, List.setIfInBounds_toArray, List.set_cons_zero, List.set_cons_succ]
        refine wpTri_one rfl (fun K hK => ⟨by kernel_rfl, ?_⟩)
        go_simp
        go_at_call 7
        refine (c_mk _ x gS (HT.out.below hF.1) hx hs hs.lt).mono ?_
        rintro e V6 ⟨y, rfl, hb, hy⟩
        replace hF := kF hb hF
        replace hs := hs.below hb hs.lt
        replace hx := (hx.below hb).mono hb.size
        replace ha := ha.below hb ha.lt
        refine hK _ _ hF.2 ?_
        clear hK K hb
        try simp only [Act.put, List.getElem_toArray, List.getElem_cons_succ, List.getElem_cons_zero, List.setIfInBounds_toArray, List.set_cons_zero, List.set_cons_succ]
        iterate 3
          refine wpTri_take (v := ?_) rfl (by kernel_rfl) (fun w hSw => ?_) ?_
          rotate_left 1
          · go_simp
            with_reducible rfl
          simp only [Act.put, List.getElem_toArray, List.getElem_cons_succ, List.getElem_cons_zero, List.setIfInBounds_toArray, List.set_cons_zero, List.set_cons_succ]
        refine wpTri_one rfl (fun K hK => ⟨by kernel_rfl, ?_⟩)
        obtain ⟨m0, m1, m2, m3, m4⟩ := st5c ha
        have ff := fun i => Row.frozen ha i
        go_simp
        have hb : Below w.heap.size w _ := ((((((hF.1.setCell (p := ⟨gA, 0, none⟩) hgA (.slice y.ai 2 y.ci)).setCell (p := ⟨gA, 1, none⟩) hgA (.slice y.am 2 y.cm)).setCell (p := ⟨gA, 2, none⟩) hgA (.slice y.ao 2 y.co)).setCell (p := ⟨gA, 3, none⟩) hgA (.slice y.al 2 y.cl)).setCell (p := ⟨gA, 4, none⟩) hgA (.slice y.ar 2 y.cr)))
        have hr := ((((ha.store 0 (.slice y.ai 2 y.ci)).store 1 (.slice y.am 2 y.cm)).store 2 (.slice y.ao 2 y.co)).store 3 (.slice y.al 2 y.cl)).store 4 (.slice y.ar 2 y.cr)
        obtain ⟨Z, hZ⟩ : ∃ Z, (((((V6.setCell ⟨gA, 0, none⟩ (.slice y.ai 2 y.ci)).setCell ⟨gA, 1, none⟩ (.slice y.am 2 y.cm)).setCell ⟨gA, 2, none⟩ (.slice y.ao 2 y.co)).setCell ⟨gA, 3, none⟩ (.slice y.al 2 y.cl)).setCell ⟨gA, 4, none⟩ (.slice y.ar 2 y.cr)) = Z := ⟨_, rfl⟩
        rw [hZ] at hb
        replace hr : Row Z gA 32 [.slice y.ai 2 y.ci, .slice y.am 2 y.cm, .slice y.ao 2 y.co, .slice y.al 2 y.cl, .slice y.ar 2 y.cr] := hZ ▸ hr
        have hzk : ∀ k, k ≠ gA → Z.heap[k]? = V6.heap[k]? := fun k hk => by rw [← hZ, Below.heap_setCell _ _ _ k hk, Below.heap_setCell _ _ _ k hk, Below.heap_setCell _ _ _ k hk, Below.heap_setCell _ _ _ k hk, Below.heap_setCell _ _ _ k hk]
        have hzs : Z.heap.size = V6.heap.size := by rw [← hZ]; simp [World.setCell]
        have hF2 : Below w.heap.size w Z ∧ Row Z g1 45 (ltrX 4).cells ∧ Row Z g2 45 (ltrX 16).cells := ⟨hb, hF.2.1.keep (hzk _ (by omega)), hF.2.2.keep (hzk _ (by omega))⟩
        have hy2 := mx_apart hy mxok_tw ha (by intro u hu; simp at hu; exact ⟨_, _, _, hu⟩) hzk
        rw [← hzs] at hy2
        try rw [hZ]
        clear hZ
        refine hK _ _ hF2.2 ?_
        clear hK K
        refine wpTri_done ?_
        simp only [List.drop_succ_cons, List.drop_zero]
        clear m0 m1 m2 m3 m4 ff hzk hzs hs hx ha hy hF hb
        go_wp2_with fail
        go_meet
        exact ⟨gA, y, rfl, rfl, hF2, hr, hy2⟩
      · skip
        go_simp
        go_at_call 15
        refine (two_any _).mono ?_
        rintro e V4 ⟨x, rfl, hb, hx⟩
        replace hF := kF hb hF
        replace ha := ha.below hb ha.lt
        refine hK _ _ hF.2 ?_
        clear hK K hb
        try simp only [Act.put, List.getElem_toArray, List.getElem_cons_succ, List.getElem_cons_zero, List.setIfInBounds_toArray, List.set_cons_zero, List.set_cons_succ]
        refine wpTri_one rfl (fun K hK => ⟨by kernel_rfl, ?_⟩)
        go_simp
        have hb := below_alloc' V4 (.cells #[.int .i64 4, .int .i64 4, .int .i64 1, .int .i64 1, .int .i64 1, .int .i64 1, .int .i64 16, .int .i64 16, .int .i64 1, .int .i64 1, .int .i64 1, .int .i64 1] 45)
        have hs := Row.new V4 45 [.int .i64 4, .int .i64 4, .int .i64 1, .int .i64 1, .int .i64 1, .int .i64 1, .int .i64 16, .int .i64 16, .int .i64 1, .int .i64 1, .int .i64 1, .int .i64 1]
        obtain ⟨V5, hV⟩ : ∃ V, V4.alloc (.cells #[.int .i64 4, .int .i64 4, .int .i64 1, .int .i64 1, .int .i64 1, .int .i64 1, .int .i64 16, .int .i64 16, .int .i64 1, .int .i64 1, .int .i64 1, .int .i64 1] 45) = V := ⟨_, rfl⟩
        replace hs : Row V5 V4.heap.size 45 [.int .i64 4, .int .i64 4, .int .i64 1, .int .i64 1, .int .i64 1, .int .i64 1, .int .i64 16, .int .i64 16, .int .i64 1, .int .i64 1, .int .i64 1, .int .i64 1] := hV ▸ hs
        rw [hV] at hb
        replace hF := kF hb hF
        replace hx := (hx.below hb).mono hb.size
        replace ha := ha.below hb ha.lt
        try rw [hV]
        clear hV
        refine hK _ _ hF.2 ?_
        clear hK K hb
        try simp only [Act.put, List.getElem_toArray, List.getElem_cons_succ, List.getElem_cons_zero, List.setIfInBounds_toArray, List.set_cons_zero, List.set_cons_succ]
        generalize V4.heap.size = gS at hs ⊢
        refine wpTri_one rfl (fun K hK => ⟨by kernel_rfl, ?_⟩)
        go_simp
        go_at_call 7
        refine (c_mk _ x gS (HT.out.below hF.1) hx hs hs.lt).mono ?_
        rintro e V6 ⟨y, rfl, hb, hy⟩
        replace hF := kF hb hF
        replace hs := hs.below hb hs.lt
        replace hx := (hx.below hb).mono hb.size
        replace ha := ha.below hb ha.lt
        refine hK _ _ hF.2 ?_
        clear hK K hb
        try simp only [Act.put, List.getElem_toArray, List.getElem_cons_succ, List.getElem_cons_zero, List.setIfInBounds_toArray, List.set_cons_zero, List.set_cons_succ]
        iterate 3
          refine wpTri_take (v := ?_) rfl (by kernel_rfl) (fun w hSw => ?_) ?_
          rotate_left 1
          · go_simp
            with_reducible rfl
          simp only [Act.put, List.getElem_toArray, List.getElem_cons_succ, List.getElem_cons_zero, List.setIfInBounds_toArray, List.set_cons_zero, List.set_cons_succ]
        refine wpTri_one rfl (fun K hK => ⟨by kernel_rfl, ?_⟩)
        obtain ⟨m0, m1, m2, m3, m4⟩ := st5c ha
        have ff := fun i => Row.frozen ha i
        go_simp
        have hb : Below w.heap.size w _ := ((((((hF.1.setCell (p := ⟨gA, 0, none⟩) hgA (.slice y.ai 2 y.ci)).setCell (p := ⟨gA, 1, none⟩) hgA (.slice y.am 2 y.cm)).setCell (p := ⟨gA, 2, none⟩) hgA (.slice y.ao 2 y.co)).setCell (p := ⟨gA, 3, none⟩) hgA (.slice y.al 2 y.cl)).setCell (p := ⟨gA, 4, none⟩) hgA (.slice y.ar 2 y.cr)))
        have hr := ((((ha.store 0 (.slice y.ai 2 y.ci)).store 1 (.slice y.am 2 y.cm)).store 2 (.slice y.ao 2 y.co)).store 3 (.slice y.al 2 y.cl)).store 4 (.slice y.ar 2 y.cr)
        obtain ⟨Z, hZ⟩ : ∃ Z, (((((V6.setCell ⟨gA, 0, none⟩ (.slice y.ai 2 y.ci)).setCell ⟨gA, 1, none⟩ (.slice y.am 2 y.cm)).setCell ⟨gA, 2, none⟩ (.slice y.ao 2 y.co)).setCell ⟨gA, 3, none⟩ (.slice y.al 2 y.cl)).setCell ⟨gA, 4, none⟩ (.slice y.ar 2 y.cr)) = Z := ⟨_, rfl⟩
        rw [hZ] at hb
        replace hr : Row Z gA 32 [.slice y.ai 2 y.ci, .slice y.am 2 y.cm, .slice y.ao 2 y.co, .slice y.al 2 y.cl, .slice y.ar 2 y.cr] := hZ ▸ hr
        have hzk : ∀ k, k ≠ gA → Z.heap[k]? = V6.heap[k]? := fun k hk => by rw [← hZ, Below.heap_setCell _ _ _ k hk, Below.heap_setCell _ _ _ k hk, Below.heap_setCell _ _ _ k hk, Below.heap_setCell _ _ _ k hk, Below.heap_setCell _ _ _ k hk]
        have hzs : Z.heap.size = V6.heap.size := by rw [← hZ]; simp [World.setCell]
        have hF2 : Below w.heap.size w Z ∧ Row Z g1 45 (ltrX 4).cells ∧ Row Z g2 45 (ltrX 16).cells := ⟨hb, hF.2.1.keep (hzk _ (by omega)), hF.2.2.keep (hzk _ (by omega))⟩
        have hy2 := mx_apart hy mxok_tw ha (by intro u hu; simp at hu; exact ⟨_, _, _, hu⟩) hzk
        rw [← hzs] at hy2
        try rw [hZ]
        clear hZ
        refine hK _ _ hF2.2 ?_
        clear hK K
        refine wpTri_done ?_
        simp only [List.drop_succ_cons, List.drop_zero]
        clear m0 m1 m2 m3 m4 ff hzk hzs hs hx ha hy hF hb
        go_wp2_with fail
        go_meet
        exact ⟨gA, y, rfl, rfl, hF2, hr, hy2⟩
  case rest =>
    obtain ⟨G, y, rfl, rfl, hF, hr, hy⟩ := hcut
    have k1 : Kp fun W => (Below w.heap.size w W ∧ Row W g1 45 [.int .i64 4, .int .i64 4, .int .i64 1, .int .i64 1, .int .i64 1, .int .i64 1] ∧ Row W g2 45 [.int .i64 16, .int .i64 16, .int .i64 1, .int .i64 1, .int .i64 1, .int .i64 1]) ∧ Row W G 32 [.slice y.ai 2 y.ci, .slice y.am 2 y.cm, .slice y.ao 2 y.co, .slice y.al 2 y.cl, .slice y.ar 2 y.cr] ∧ MxS W W.heap.size y (mixC 4 sX twT) := Kp.and kF (Kp.and Kp.row Kp.mx)
    have h1 : (fun W => (Below w.heap.size w W ∧ Row W g1 45 [.int .i64 4, .int .i64 4, .int .i64 1, .int .i64 1, .int .i64 1, .int .i64 1] ∧ Row W g2 45 [.int .i64 16, .int .i64 16, .int .i64 1, .int .i64 1, .int .i64 1, .int .i64 1]) ∧ Row W G 32 [.slice y.ai 2 y.ci, .slice y.am 2 y.cm, .slice y.ao 2 y.co, .slice y.al 2 y.cl, .slice y.ar 2 y.cr] ∧ MxS W W.heap.size y (mixC 4 sX twT)) wc := ⟨hF, hr, hy⟩
    clear hF kF hr hy hB1 r1 r2 L4 L16
    go_upto_region 4 with (go_at_call 7; (with_reducible refine (c_mk2 _ (HT.out.below h1.1.1)).mono ?_); rintro e w3 ⟨y3, rfl, hb⟩; replace h1 := k1 hb h1; clear hb)
    have hb := below_alloc' w3 (.cells #[.slice y3.ai 0 y3.ci, .slice y3.am 0 y3.cm, .slice y3.ao 0 y3.co, .slice y3.al 0 y3.cl, .slice y3.ar 0 y3.cr] 32)
    obtain ⟨V3, hV⟩ : ∃ V, w3.alloc (.cells #[.slice y3.ai 0 y3.ci, .slice y3.am 0 y3.cm, .slice y3.ao 0 y3.co, .slice y3.al 0 y3.cl, .slice y3.ar 0 y3.cr] 32) = V := ⟨_, rfl⟩
    rw [hV] at hb ⊢
    clear hV
    replace h1 := k1 hb h1
    clear hb
    generalize w3.heap.size = g5
    go_upto_region 5 with (go_at_call 7; (with_reducible refine (c_mk0 _ (HT.out.below h1.1.1)).mono ?_); rintro e w4 ⟨y4, rfl, hb⟩; replace h1 := k1 hb h1; clear hb)
    have hb := below_alloc' w4 (.cells #[.slice y4.ai 0 y4.ci, .slice y4.am 0 y4.cm, .slice y4.ao 0 y4.co, .slice y4.al 0 y4.cl, .slice y4.ar 0 y4.cr] 32)
    obtain ⟨V4, hV⟩ : ∃ V, w4.alloc (.cells #[.slice y4.ai 0 y4.ci, .slice y4.am 0 y4.cm, .slice y4.ao 0 y4.co, .slice y4.al 0 y4.cl, .slice y4.ar 0 y4.cr] 32) = V := ⟨_, rfl⟩
    have r7 : Row V4 w4.heap.size 32 [.slice y4.ai 0 y4.ci, .slice y4.am 0 y4.cm, .slice y4.ao 0 y4.co, .slice y4.al 0 y4.cl, .slice y4.ar 0 y4.cr] := hV ▸ Row.new w4 32 [.slice y4.ai 0 y4.ci, .slice y4.am 0 y4.cm, .slice y4.ao 0 y4.co, .slice y4.al 0 y4.cl, .slice y4.ar 0 y4.cr]
    rw [hV] at hb ⊢
    clear hV
    replace h1 := k1 hb h1
    clear hb
    generalize w4.heap.size = g7 at r7 ⊢
    have k2 : Kp fun W => ((Below w.heap.size w W ∧ Row W g1 45 [.int .i64 4, .int .i64 4, .int .i64 1, .int .i64 1, .int .i64 1, .int .i64 1] ∧ Row W g2 45 [.int .i64 16, .int .i64 16, .int .i64 1, .int .i64 1, .int .i64 1, .int .i64 1]) ∧ Row W G 32 [.slice y.ai 2 y.ci, .slice y.am 2 y.cm, .slice y.ao 2 y.co, .slice y.al 2 y.cl, .slice y.ar 2 y.cr] ∧ MxS W W.heap.size y (mixC 4 sX twT)) ∧ Row W g7 32 [.slice y4.ai 0 y4.ci, .slice y4.am 0 y4.cm, .slice y4.ao 0 y4.co, .slice y4.al 0 y4.cl, .slice y4.ar 0 y4.cr] := Kp.and k1 Kp.row
    have h2 : (fun W => ((Below w.heap.size w W ∧ Row W g1 45 [.int .i64 4, .int .i64 4, .int .i64 1, .int .i64 1, .int .i64 1, .int .i64 1] ∧ Row W g2 45 [.int .i64 16, .int .i64 16, .int .i64 1, .int .i64 1, .int .i64 1, .int .i64 1]) ∧ Row W G 32 [.slice y.ai 2 y.ci, .slice y.am 2 y.cm, .slice y.ao 2 y.co, .slice y.al 2 y.cl, .slice y.ar 2 y.cr] ∧ MxS W W.heap.size y (mixC 4 sX twT)) ∧ Row W g7 32 [.slice y4.ai 0 y4.ci, .slice y4.am 0 y4.cm, .slice y4.ao 0 y4.co, .slice y4.al 0 y4.cl, .slice y4.ar 0 y4.cr]) V4 := ⟨h1, r7⟩
    clear k1 h1 r7
    go_upto_region 6 with (go_at_call 16; (with_reducible refine (c_op0 _).mono ?_); rintro e w5 ⟨v5, rfl, hb⟩; replace h2 := k2 hb h2; clear hb)
    go_upto_region 7 with (first
      | (go_at_call 15; (with_reducible refine (c_two _).mono ?_); rintro e w6a ⟨x6, rfl, hb, hx⟩; replace h2 := k2 hb h2; clear hb)
      | (go_at_call 16; (with_reducible refine (d_op1 _ _ hx).mono ?_); rintro e w6 ⟨vl, rfl, hb, hl⟩; replace h2 := k2 hb h2; clear hb))
    have k3 : Kp fun W => (((Below w.heap.size w W ∧ Row W g1 45 [.int .i64 4, .int .i64 4, .int .i64 1, .int .i64 1, .int .i64 1, .int .i64 1] ∧ Row W g2 45 [.int .i64 16, .int .i64 16, .int .i64 1, .int .i64 1, .int .i64 1, .int .i64 1]) ∧ Row W G 32 [.slice y.ai 2 y.ci, .slice y.am 2 y.cm, .slice y.ao 2 y.co, .slice y.al 2 y.cl, .slice y.ar 2 y.cr] ∧ MxS W W.heap.size y (mixC 4 sX twT)) ∧ Row W g7 32 [.slice y4.ai 0 y4.ci, .slice y4.am 0 y4.cm, .slice y4.ao 0 y4.co, .slice y4.al 0 y4.cl, .slice y4.ar 0 y4.cr]) ∧ SlG 36 Og.cells W W.heap.size vl oX := Kp.and k2 Kp.sl
    have h3 : (fun W => (((Below w.heap.size w W ∧ Row W g1 45 [.int .i64 4, .int .i64 4, .int .i64 1, .int .i64 1, .int .i64 1, .int .i64 1] ∧ Row W g2 45 [.int .i64 16, .int .i64 16, .int .i64 1, .int .i64 1, .int .i64 1, .int .i64 1]) ∧ Row W G 32 [.slice y.ai 2 y.ci, .slice y.am 2 y.cm, .slice y.ao 2 y.co, .slice y.al 2 y.cl, .slice y.ar 2 y.cr] ∧ MxS W W.heap.size y (mixC 4 sX twT)) ∧ Row W g7 32 [.slice y4.ai 0 y4.ci, .slice y4.am 0 y4.cm, .slice y4.ao 0 y4.co, .slice y4.al 0 y4.cl, .slice y4.ar 0 y4.cr]) ∧ SlG 36 Og.cells W W.heap.size vl oX) w6 := ⟨h2, hl⟩
    clear k2 h2 hl hx
    go_upto_region 8 with (first
      | (go_at_call 15; (with_reducible refine (c_two _).mono ?_); rintro e w7a ⟨x7, rfl, hb, hx⟩; replace h3 := k3 hb h3; clear hb)
      | (go_at_call 17; (with_reducible refine (d_tr1 _ _ hx).mono ?_); rintro e w7 ⟨vp, rfl, hb, hp⟩; replace h3 := k3 hb h3; clear hb))
    have k4 : Kp fun W => ((((Below w.heap.size w W ∧ Row W g1 45 [.int .i64 4, .int .i64 4, .int .i64 1, .int .i64 1, .int .i64 1, .int .i64 1] ∧ Row W g2 45 [.int .i64 16, .int .i64 16, .int .i64 1, .int .i64 1, .int .i64 1, .int .i64 1]) ∧ Row W G 32 [.slice y.ai 2 y.ci, .slice y.am 2 y.cm, .slice y.ao 2 y.co, .slice y.al 2 y.cl, .slice y.ar 2 y.cr] ∧ MxS W W.heap.size y (mixC 4 sX twT)) ∧ Row W g7 32 [.slice y4.ai 0 y4.ci, .slice y4.am 0 y4.cm, .slice y4.ao 0 y4.co, .slice y4.al 0 y4.cl, .slice y4.ar 0 y4.cr]) ∧ SlG 36 Og.cells W W.heap.size vl oX) ∧ SlG 1 encI W W.heap.size vp [1, 0] := Kp.and k3 Kp.sl
    have h4 : (fun W => ((((Below w.heap.size w W ∧ Row W g1 45 [.int .i64 4, .int .i64 4, .int .i64 1, .int .i64 1, .int .i64 1, .int .i64 1] ∧ Row W g2 45 [.int .i64 16, .int .i64 16, .int .i64 1, .int .i64 1, .int .i64 1, .int .i64 1]) ∧ Row W G 32 [.slice y.ai 2 y.ci, .slice y.am 2 y.cm, .slice y.ao 2 y.co, .slice y.al 2 y.cl, .slice y.ar 2 y.cr] ∧ MxS W W.heap.size y (mixC 4 sX twT)) ∧ Row W g7 32 [.slice y4.ai 0 y4.ci, .slice y4.am 0 y4.cm, .slice y4.ao 0 y4.co, .slice y4.al 0 y4.cl, .slice y4.ar 0 y4.cr]) ∧ SlG 36 Og.cells W W.heap.size vl oX) ∧ SlG 1 encI W W.heap.size vp [1, 0]) w7 := ⟨h3, hp⟩
    clear k3 h3 hp hx
    go_upto_region 9 with (go_at_call 15; (with_reducible refine (c_two _).mono ?_); rintro e w8 ⟨x8, rfl, hb, hx⟩; replace h4 := k4 hb h4; clear hb)
    have hb := below_alloc' w8 (.cells #[.slice x8.al 2 x8.cl, .slice x8.ar 2 x8.cr, .slice x8.arl 2 x8.crl, .slice x8.arr 2 x8.crr, .slice x8.at_ 2 x8.ct] 27)
    obtain ⟨V8, hV⟩ : ∃ V, w8.alloc (.cells #[.slice x8.al 2 x8.cl, .slice x8.ar 2 x8.cr, .slice x8.arl 2 x8.crl, .slice x8.arr 2 x8.crr, .slice x8.at_ 2 x8.ct] 27) = V := ⟨_, rfl⟩
    have r15 : Row V8 w8.heap.size 27 [.slice x8.al 2 x8.cl, .slice x8.ar 2 x8.cr, .slice x8.arl 2 x8.crl, .slice x8.arr 2 x8.crr, .slice x8.at_ 2 x8.ct] := hV ▸ Row.new w8 27 [.slice x8.al 2 x8.cl, .slice x8.ar 2 x8.cr, .slice x8.arl 2 x8.crl, .slice x8.arr 2 x8.crr, .slice x8.at_ 2 x8.ct]
    rw [hV] at hb ⊢
    clear hV
    have c0 : (V8.alloc (.cells #[.int .i64 0, .int .i64 0] 3)).cell? ⟨w8.heap.size, 0, none⟩ = some _ := (r15.alloc (.cells #[.int .i64 0, .int .i64 0] 3)).cell 0
    have ff := (r15.alloc (.cells #[.int .i64 0, .int .i64 0] 3)).frozen 0
    go_upto_region 10 with (fail)
    have hn : Below w8.heap.size w8 ((V8.alloc (.cells #[.int .i64 0, .int .i64 0] 3)).setCell ⟨w8.heap.size, 0, none⟩ (.slice (some ⟨V8.heap.size, 0, none⟩) 2 2)) := (hb.trans ((below_alloc' V8 _).mono hb.size)).setCell (p := ⟨w8.heap.size, 0, none⟩) (Nat.le_refl _) _
    have q15 := (r15.alloc (.cells #[.int .i64 0, .int .i64 0] 3)).store 0 (.slice (some ⟨V8.heap.size, 0, none⟩) 2 2)
    have qi := Row.other (Row.new V8 3 [.int .i64 0, .int .i64 0]) (p := ⟨w8.heap.size, 0, none⟩) (by have := r15.lt; show V8.heap.size ≠ w8.heap.size; omega) (.slice (some ⟨V8.heap.size, 0, none⟩) 2 2)
    obtain ⟨V9, hV⟩ : ∃ V, (V8.alloc (.cells #[.int .i64 0, .int .i64 0] 3)).setCell ⟨w8.heap.size, 0, none⟩ (.slice (some ⟨V8.heap.size, 0, none⟩) 2 2) = V := ⟨_, rfl⟩
    replace q15 : Row V9 w8.heap.size 27 [.slice (some ⟨V8.heap.size, 0, none⟩) 2 2, .slice x8.ar 2 x8.cr, .slice x8.arl 2 x8.crl, .slice x8.arr 2 x8.crr, .slice x8.at_ 2 x8.ct] := hV ▸ q15
    replace qi : Row V9 V8.heap.size 3 [.int .i64 0, .int .i64 0] := hV ▸ qi
    rw [hV] at hn ⊢
    clear hV c0 ff r15 hb
    replace h4 := k4 hn h4
    replace hx := (hx.below hn).mono hn.size
    clear hn
    generalize V8.heap.size = gi at *
    generalize w8.heap.size = g15 at *
    obtain ⟨b0, b1, b2, b3, b4⟩ := st5c q15
    clear q15
    go_upto_region 11 with (go_at_call 17; (with_reducible refine (c_tr2 _ x8 gi hx qi qi.lt).mono ?_); rintro e w10 ⟨v10, rfl, hb⟩; replace h4 := k4 hb h4; clear hb)
    clear b0 b1 b2 b3 b4 hx qi
    go_upto_region 12 with (first
      | (go_at_call 15; (with_reducible refine (c_two _).mono ?_); rintro e w11a ⟨x11, rfl, hb, hx⟩; replace h4 := k4 hb h4; clear hb)
      | (go_at_call 16; (with_reducible refine (d_op2 _ _ hx).mono ?_); rintro e w11 ⟨vo, rfl, hb, ho⟩; replace h4 := k4 hb h4; clear hb))
    have k5 : Kp fun W => (((((Below w.heap.size w W ∧ Row W g1 45 [.int .i64 4, .int .i64 4, .int .i64 1, .int .i64 1, .int .i64 1, .int .i64 1] ∧ Row W g2 45 [.int .i64 16, .int .i64 16, .int .i64 1, .int .i64 1, .int .i64 1, .int .i64 1]) ∧ Row W G 32 [.slice y.ai 2 y.ci, .slice y.am 2 y.cm, .slice y.ao 2 y.co, .slice y.al 2 y.cl, .slice y.ar 2 y.cr] ∧ MxS W W.heap.size y (mixC 4 sX twT)) ∧ Row W g7 32 [.slice y4.ai 0 y4.ci, .slice y4.am 0 y4.cm, .slice y4.ao 0 y4.co, .slice y4.al 0 y4.cl, .slice y4.ar 0 y4.cr]) ∧ SlG 36 Og.cells W W.heap.size vl oX) ∧ SlG 1 encI W W.heap.size vp [1, 0]) ∧ SlG 36 Og.cells W W.heap.size vo oY := Kp.and k4 Kp.sl
    have h5 : (fun W => (((((Below w.heap.size w W ∧ Row W g1 45 [.int .i64 4, .int .i64 4, .int .i64 1, .int .i64 1, .int .i64 1, .int .i64 1] ∧ Row W g2 45 [.int .i64 16, .int .i64 16, .int .i64 1, .int .i64 1, .int .i64 1, .int .i64 1]) ∧ Row W G 32 [.slice y.ai 2 y.ci, .slice y.am 2 y.cm, .slice y.ao 2 y.co, .slice y.al 2 y.cl, .slice y.ar 2 y.cr] ∧ MxS W W.heap.size y (mixC 4 sX twT)) ∧ Row W g7 32 [.slice y4.ai 0 y4.ci, .slice y4.am 0 y4.cm, .slice y4.ao 0 y4.co, .slice y4.al 0 y4.cl, .slice y4.ar 0 y4.cr]) ∧ SlG 36 Og.cells W W.heap.size vl oX) ∧ SlG 1 encI W W.heap.size vp [1, 0]) ∧ SlG 36 Og.cells W W.heap.size vo oY) w11 := ⟨h4, ho⟩
    clear k4 h4 ho hx
    go_upto_region 13 with (go_at_call 18; (with_reducible refine (c_wh1 _ vl vo h5.1.1.2 h5.2).mono ?_); rintro e w12 ⟨vw, rfl, hb, hw⟩; replace h5 := k5 hb h5; clear hb)
    have k6 : Kp fun W => ((((((Below w.heap.size w W ∧ Row W g1 45 [.int .i64 4, .int .i64 4, .int .i64 1, .int .i64 1, .int .i64 1, .int .i64 1] ∧ Row W g2 45 [.int .i64 16, .int .i64 16, .int .i64 1, .int .i64 1, .int .i64 1, .int .i64 1]) ∧ Row W G 32 [.slice y.ai 2 y.ci, .slice y.am 2 y.cm, .slice y.ao 2 y.co, .slice y.al 2 y.cl, .slice y.ar 2 y.cr] ∧ MxS W W.heap.size y (mixC 4 sX twT)) ∧ Row W g7 32 [.slice y4.ai 0 y4.ci, .slice y4.am 0 y4.cm, .slice y4.ao 0 y4.co, .slice y4.al 0 y4.cl, .slice y4.ar 0 y4.cr]) ∧ SlG 36 Og.cells W W.heap.size vl oX) ∧ SlG 1 encI W W.heap.size vp [1, 0]) ∧ SlG 36 Og.cells W W.heap.size vo oY) ∧ SlG 1 encI W W.heap.size vw [1, 0] := Kp.and k5 Kp.sl
    have h6 : (fun W => ((((((Below w.heap.size w W ∧ Row W g1 45 [.int .i64 4, .int .i64 4, .int .i64 1, .int .i64 1, .int .i64 1, .int .i64 1] ∧ Row W g2 45 [.int .i64 16, .int .i64 16, .int .i64 1, .int .i64 1, .int .i64 1, .int .i64 1]) ∧ Row W G 32 [.slice y.ai 2 y.ci, .slice y.am 2 y.cm, .slice y.ao 2 y.co, .slice y.al 2 y.cl, .slice y.ar 2 y.cr] ∧ MxS W W.heap.size y (mixC 4 sX twT)) ∧ Row W g7 32 [.slice y4.ai 0 y4.ci, .slice y4.am 0 y4.cm, .slice y4.ao 0 y4.co, .slice y4.al 0 y4.cl, .slice y4.ar 0 y4.cr]) ∧ SlG 36 Og.cells W W.heap.size vl oX) ∧ SlG 1 encI W W.heap.size vp [1, 0]) ∧ SlG 36 Og.cells W W.heap.size vo oY) ∧ SlG 1 encI W W.heap.size vw [1, 0]) w12 := ⟨h5, hw⟩
    clear k5 h5 hw
    go_upto_region 14 with (go_at_call 18; (with_reducible refine (c_wh2 _ vl h6.1.1.1.2).mono ?_); rintro e w13 ⟨vn, rfl, hb⟩; replace h6 := k6 hb h6; clear hb)
    obtain ⟨a0, a1, a2, a3, a4, a5⟩ := st6 h6.1.1.1.1.1.1.2.1
    obtain ⟨d0, d1, d2, d3, d4, d5⟩ := st6 h6.1.1.1.1.1.1.2.2
    obtain ⟨m0, m1, m2, m3, m4⟩ := st5c h6.1.1.1.1.1.2.1
    obtain ⟨n0, n1, n2, n3, n4⟩ := st5c h6.1.1.1.1.2
    go_upto_region 17 with (first
      | (go_at_call 19; (with_reducible refine (c_mid _ y h6.1.1.1.1.1.2.2).mono ?_); rintro e w16 ⟨rfl, hb⟩; replace h6 := k6 hb h6; clear a0 a1 a2 a3 a4 a5 d0 d1 d2 d3 d4 d5 m0 m1 m2 m3 m4 n0 n1 n2 n3 n4; obtain ⟨a0, a1, a2, a3, a4, a5⟩ := st6 h6.1.1.1.1.1.1.2.1; obtain ⟨d0, d1, d2, d3, d4, d5⟩ := st6 h6.1.1.1.1.1.1.2.2; obtain ⟨m0, m1, m2, m3, m4⟩ := st5c h6.1.1.1.1.1.2.1; obtain ⟨n0, n1, n2, n3, n4⟩ := st5c h6.1.1.1.1.2; clear hb)
      | (go_at_call 19; (with_reducible refine (c_out _ y h6.1.1.1.1.1.2.2).mono ?_); rintro e w16 ⟨rfl, hb⟩; replace h6 := k6 hb h6; clear a0 a1 a2 a3 a4 a5 d0 d1 d2 d3 d4 d5 m0 m1 m2 m3 m4 n0 n1 n2 n3 n4; obtain ⟨a0, a1, a2, a3, a4, a5⟩ := st6 h6.1.1.1.1.1.1.2.1; obtain ⟨d0, d1, d2, d3, d4, d5⟩ := st6 h6.1.1.1.1.1.1.2.2; obtain ⟨m0, m1, m2, m3, m4⟩ := st5c h6.1.1.1.1.1.2.1; obtain ⟨n0, n1, n2, n3, n4⟩ := st5c h6.1.1.1.1.2; clear hb)
      | (go_at_call 20; (with_reducible refine (c_so _ vl _ (by kernel_rfl) h6.1.1.1.2).mono ?_); rintro e w16 ⟨rfl, hb⟩; replace h6 := k6 hb h6; clear a0 a1 a2 a3 a4 a5 d0 d1 d2 d3 d4 d5 m0 m1 m2 m3 m4 n0 n1 n2 n3 n4; obtain ⟨a0, a1, a2, a3, a4, a5⟩ := st6 h6.1.1.1.1.1.1.2.1; obtain ⟨d0, d1, d2, d3, d4, d5⟩ := st6 h6.1.1.1.1.1.1.2.2; obtain ⟨m0, m1, m2, m3, m4⟩ := st5c h6.1.1.1.1.1.2.1; obtain ⟨n0, n1, n2, n3, n4⟩ := st5c h6.1.1.1.1.2; clear hb)
      | (go_at_call 21; (with_reducible refine (c_si _ vp h6.1.1.2).mono ?_); rintro e w16 ⟨rfl, hb⟩; replace h6 := k6 hb h6; clear a0 a1 a2 a3 a4 a5 d0 d1 d2 d3 d4 d5 m0 m1 m2 m3 m4 n0 n1 n2 n3 n4; obtain ⟨a0, a1, a2, a3, a4, a5⟩ := st6 h6.1.1.1.1.1.1.2.1; obtain ⟨d0, d1, d2, d3, d4, d5⟩ := st6 h6.1.1.1.1.1.1.2.2; obtain ⟨m0, m1, m2, m3, m4⟩ := st5c h6.1.1.1.1.1.2.1; obtain ⟨n0, n1, n2, n3, n4⟩ := st5c h6.1.1.1.1.2; clear hb))
    go_wp2_with (first
      | (go_at_call 21; (with_reducible refine (c_si _ vw h6.2).mono ?_); rintro e w17 ⟨rfl, hb⟩; replace h6 := k6 hb h6; clear a0 a1 a2 a3 a4 a5 d0 d1 d2 d3 d4 d5 m0 m1 m2 m3 m4 n0 n1 n2 n3 n4; obtain ⟨a0, a1, a2, a3, a4, a5⟩ := st6 h6.1.1.1.1.1.1.2.1; obtain ⟨d0, d1, d2, d3, d4, d5⟩ := st6 h6.1.1.1.1.1.1.2.2; obtain ⟨m0, m1, m2, m3, m4⟩ := st5c h6.1.1.1.1.1.2.1; obtain ⟨n0, n1, n2, n3, n4⟩ := st5c h6.1.1.1.1.2; clear hb)
      | (go_at_call 12; (with_reducible refine (c_ck0 _ (HT.out.below h6.1.1.1.1.1.1.1)).mono ?_); rintro e w17 ⟨rfl, hb⟩; replace h6 := k6 hb h6; clear a0 a1 a2 a3 a4 a5 d0 d1 d2 d3 d4 d5 m0 m1 m2 m3 m4 n0 n1 n2 n3 n4; obtain ⟨a0, a1, a2, a3, a4, a5⟩ := st6 h6.1.1.1.1.1.1.2.1; obtain ⟨d0, d1, d2, d3, d4, d5⟩ := st6 h6.1.1.1.1.1.1.2.2; obtain ⟨m0, m1, m2, m3, m4⟩ := st5c h6.1.1.1.1.1.2.1; obtain ⟨n0, n1, n2, n3, n4⟩ := st5c h6.1.1.1.1.2; clear hb)
      | (go_at_call 12; (with_reducible refine (c_ck2 _ (HT.out.below h6.1.1.1.1.1.1.1)).mono ?_); rintro e w17 ⟨rfl, hb⟩; replace h6 := k6 hb h6; clear a0 a1 a2 a3 a4 a5 d0 d1 d2 d3 d4 d5 m0 m1 m2 m3 m4 n0 n1 n2 n3 n4; obtain ⟨a0, a1, a2, a3, a4, a5⟩ := st6 h6.1.1.1.1.1.1.2.1; obtain ⟨d0, d1, d2, d3, d4, d5⟩ := st6 h6.1.1.1.1.1.1.2.2; obtain ⟨m0, m1, m2, m3, m4⟩ := st5c h6.1.1.1.1.1.2.1; obtain ⟨n0, n1, n2, n3, n4⟩ := st5c h6.1.1.1.1.2; clear hb)
      | (go_at_call 12; (with_reducible refine (c_ckY _ y vl (HT.out.below h6.1.1.1.1.1.1.1) h6.1.1.1.1.1.2.2 h6.1.1.1.2).mono ?_); rintro e w17 ⟨rfl, hb⟩; replace h6 := k6 hb h6; clear a0 a1 a2 a3 a4 a5 d0 d1 d2 d3 d4 d5 m0 m1 m2 m3 m4 n0 n1 n2 n3 n4; obtain ⟨a0, a1, a2, a3, a4, a5⟩ := st6 h6.1.1.1.1.1.1.2.1; obtain ⟨d0, d1, d2, d3, d4, d5⟩ := st6 h6.1.1.1.1.1.1.2.2; obtain ⟨m0, m1, m2, m3, m4⟩ := st5c h6.1.1.1.1.1.2.1; obtain ⟨n0, n1, n2, n3, n4⟩ := st5c h6.1.1.1.1.2; clear hb)
      | (go_at_call 12; (with_reducible refine (c_ckN _ y vl (HT.out.below h6.1.1.1.1.1.1.1) h6.1.1.1.1.1.2.2 h6.1.1.1.2).mono ?_); rintro e w17 ⟨rfl, hb⟩; replace h6 := k6 hb h6; clear a0 a1 a2 a3 a4 a5 d0 d1 d2 d3 d4 d5 m0 m1 m2 m3 m4 n0 n1 n2 n3 n4; obtain ⟨a0, a1, a2, a3, a4, a5⟩ := st6 h6.1.1.1.1.1.1.2.1; obtain ⟨d0, d1, d2, d3, d4, d5⟩ := st6 h6.1.1.1.1.1.1.2.2; obtain ⟨m0, m1, m2, m3, m4⟩ := st5c h6.1.1.1.1.1.2.1; obtain ⟨n0, n1, n2, n3, n4⟩ := st5c h6.1.1.1.1.2; clear hb))
    go_ret
    exact ⟨rfl, h6.1.1.1.1.1.1.1⟩
end Go.Proofs.YthboebhghaabnaaGreatDoor
