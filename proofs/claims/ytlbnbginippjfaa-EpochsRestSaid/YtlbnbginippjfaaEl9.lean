import Derived.Test.YtlbnbginippjfaaEl8
set_option linter.unusedSimpArgs false
set_option linter.unusedVariables false
namespace Go.Proofs.Ytlbnbginippjfaa
open Go.RowKit Go.Shelf Fk

/-- the world's own blocks in Strip, while others come -/
structure Sp (w : World) (n : Int) (s : Se) (W : World) : Prop where
  n : Boxed W w.heap.size 3 (.int .i64 n)
  s : RowS W (w.heap.size + 1) s
  o : RowS W (w.heap.size + 1 + 1) default
  b : Below w.heap.size w W
theorem Sp.below {w W W' : World} {n : Int} {s : Se} (h : Sp w n s W) (hb : Below W.heap.size W W') : Sp w n s W' :=
  ⟨Row.keep (vs := [.int .i64 n]) h.n (hb.block _ (Boxed.lt h.n)), Row.keep h.s (hb.block _ (Row.lt h.s)), Row.keep h.o (hb.block _ (Row.lt h.o)), h.b.trans (hb.mono h.b.size)⟩
theorem Sp.start (n : Int) (s : Se) (w : World) : Sp w n s (((w.alloc (.cells #[.int .i64 n] 3)).alloc (.cells s.cells.toArray 34)).alloc (.cells (default : Se).cells.toArray 34)) :=
  ⟨((Boxed.new w _ _).alloc _).alloc _, (row_at (by simp) _ _).alloc _, row_at (by simp) _ _, (((Below.refl _ w).alloc (Nat.le_refl _) _).alloc (by simp) _).alloc (by simp; omega) _⟩

set_option maxRecDepth 100000 in
set_option maxHeartbeats 2000000 in
theorem strp_no (n : Int) (s : Se) (w : World) (hv : secB n = false) :
    Calls Try.prog 23 #[.int .i64 n, s.val] w fun e w' => e = .returned (.tuple #[(default : Se).val, .int .i64 110]) ∧ Below w.heap.size w w' := by
  have hA := Sp.start n s w
  unfold Se.val
  go_enter Try.func23, Try.ntmps23
  go_wp2_with (go_at_call 35; refine (secret_any _ _).mono ?_; rintro e w1 ⟨rfl, rfl⟩)
  exact bodyPost_ret (v := .tuple #[.agg #[.int .i64 0, .int .i64 0, .int .i64 0, .int .i64 0, .int .i64 0, .int .i64 0], .int .i64 110]) (by simp [results, Try.results23, go_sem]) rfl ⟨rfl, hA.b⟩

set_option maxRecDepth 100000 in
set_option maxHeartbeats 2000000 in
theorem strp_bad (n : Int) (s : Se) (w : World) (hv : secB n = true) (hc : okS s = false) :
    Calls Try.prog 23 #[.int .i64 n, s.val] w fun e w' => e = .returned (.tuple #[(default : Se).val, .int .i64 100]) ∧ Below w.heap.size w w' := by
  have hch := fun w => echeck_any s w
  have e3 : chS s = 100 := by unfold chS; rw [hc]; rfl
  rw [e3] at hch
  have hA := fun (W : World) (hb : Below (((w.alloc (.cells #[.int .i64 n] 3)).alloc (.cells s.cells.toArray 34)).alloc (.cells (default : Se).cells.toArray 34)).heap.size (((w.alloc (.cells #[.int .i64 n] 3)).alloc (.cells s.cells.toArray 34)).alloc (.cells (default : Se).cells.toArray 34)) W) => (Sp.start n s w).below hb
  unfold Se.val at hch
  obtain ⟨D, hD⟩ : ∃ D : Se, (default : Se) = D := ⟨_, rfl⟩
  have HD := Lib.hid hD
  have HCH := Lib.hid hch
  have HA := Lib.hid hA
  clear e3 hch hA hD
  unfold Se.val
  go_enter Try.func23, Try.ntmps23
  go_wp2_with (first
    | (go_at_call 35; refine (secret_any _ _).mono ?_; rintro e w1 ⟨rfl, rfl⟩)
    | (go_at_call 25; refine (HCH.out _).mono ?_; rintro e w1 ⟨rfl, hb⟩; replace hb := HA.out _ hb; have ho := hb.o; rw [HD.out] at ho; obtain ⟨q0, q1, q2, q3, q4, q5⟩ := ho.six; obtain ⟨f0, f1, f2, f3, f4, f5⟩ := ho.free))
  have h6 : RowS ((((((w1.setCell ⟨w.heap.size + 1 + 1, 0, none⟩ (.int .i64 D.x.a)).setCell ⟨w.heap.size + 1 + 1, 1, none⟩ (.int .i64 D.x.b)).setCell ⟨w.heap.size + 1 + 1, 2, none⟩ (.int .i64 D.y.a)).setCell ⟨w.heap.size + 1 + 1, 3, none⟩ (.int .i64 D.y.b)).setCell ⟨w.heap.size + 1 + 1, 4, none⟩ (.int .i64 D.z.a)).setCell ⟨w.heap.size + 1 + 1, 5, none⟩ (.int .i64 D.z.b)) (w.heap.size + 1 + 1) D := Row.store (Row.store (Row.store (Row.store (Row.store (Row.store ho 0 _) 1 _) 2 _) 3 _) 4 _) 5 _
  have hB6 : Below w.heap.size w ((((((w1.setCell ⟨w.heap.size + 1 + 1, 0, none⟩ (.int .i64 D.x.a)).setCell ⟨w.heap.size + 1 + 1, 1, none⟩ (.int .i64 D.x.b)).setCell ⟨w.heap.size + 1 + 1, 2, none⟩ (.int .i64 D.y.a)).setCell ⟨w.heap.size + 1 + 1, 3, none⟩ (.int .i64 D.y.b)).setCell ⟨w.heap.size + 1 + 1, 4, none⟩ (.int .i64 D.z.a)).setCell ⟨w.heap.size + 1 + 1, 5, none⟩ (.int .i64 D.z.b)) := (((((hb.b.setCell (by simp only []; omega) _).setCell (by simp only []; omega) _).setCell (by simp only []; omega) _).setCell (by simp only []; omega) _).setCell (by simp only []; omega) _).setCell (by simp only []; omega) _
  generalize ((((((w1.setCell ⟨w.heap.size + 1 + 1, 0, none⟩ (.int .i64 D.x.a)).setCell ⟨w.heap.size + 1 + 1, 1, none⟩ (.int .i64 D.x.b)).setCell ⟨w.heap.size + 1 + 1, 2, none⟩ (.int .i64 D.y.a)).setCell ⟨w.heap.size + 1 + 1, 3, none⟩ (.int .i64 D.y.b)).setCell ⟨w.heap.size + 1 + 1, 4, none⟩ (.int .i64 D.z.a)).setCell ⟨w.heap.size + 1 + 1, 5, none⟩ (.int .i64 D.z.b)) = W6 at *
  obtain ⟨p0, p1, p2, p3, p4, p5⟩ := h6.six
  exact bodyPost_ret (v := .tuple #[.agg #[.int .i64 D.x.a, .int .i64 D.x.b, .int .i64 D.y.a, .int .i64 D.y.b, .int .i64 D.z.a, .int .i64 D.z.b], .int .i64 100]) (by simp [results, Try.results23, go_sem, p0, p1, p2, p3, p4, p5]) rfl ⟨by rw [← HD.out], hB6⟩

set_option maxRecDepth 100000 in
set_option maxHeartbeats 2000000 in
theorem strp_ok (n : Int) (s : Se) (w : World) (hv : secB n = true) (hc : okS s = true) :
    Calls Try.prog 23 #[.int .i64 n, s.val] w fun e w' => e = .returned (.tuple #[(s.map (stripC n)).val, .int .i64 0]) ∧ Below w.heap.size w w' := by
  have hch := fun w => echeck_any s w
  have e3 : chS s = 0 := by unfold chS; rw [hc]; rfl
  rw [e3] at hch
  have hin := okS_inR hc
  have hn : 1 ≤ n ∧ n < 1073741789 := by simpa [secB] using hv
  have hA := fun (W : World) (hb : Below (((w.alloc (.cells #[.int .i64 n] 3)).alloc (.cells s.cells.toArray 34)).alloc (.cells (default : Se).cells.toArray 34)).heap.size (((w.alloc (.cells #[.int .i64 n] 3)).alloc (.cells s.cells.toArray 34)).alloc (.cells (default : Se).cells.toArray 34)) W) => (Sp.start n s w).below hb
  have hcall := fun (bn ab : Nat) (W : World) => changed_strip s n bn ab W hin hn.1 hn.2
  obtain ⟨t, ht⟩ : ∃ t : Se, s.map (stripC n) = t := ⟨_, rfl⟩
  rw [ht] at hcall ⊢
  unfold Se.val at hch hcall
  have HC := Lib.hid hcall
  have HCH := Lib.hid hch
  have HA := Lib.hid hA
  clear e3 hch hA hcall hin ht hn
  unfold Se.val
  go_enter Try.func23, Try.ntmps23
  go_wp2_with (first
    | (go_at_call 35; refine (secret_any _ _).mono ?_; rintro e w1 ⟨rfl, rfl⟩)
    | (go_at_call 25; refine (HCH.out _).mono ?_; rintro e w1 ⟨rfl, hb⟩; replace hb := HA.out _ hb; have hs6 := hb.s; obtain ⟨q0, q1, q2, q3, q4, q5⟩ := hs6.six; clear hs6)
    | (go_at_call 40; refine (HC.out _ _ _ (hb.n.alloc _) (Boxed.new _ _ _)).mono ?_; rintro e w3 ⟨rfl, hb4⟩; clear q0 q1 q2 q3 q4 q5; replace hb := (hb.below (below_alloc _ _)).below hb4; clear hb4; have ho := hb.o; obtain ⟨q0, q1, q2, q3, q4, q5⟩ := ho.six; obtain ⟨f0, f1, f2, f3, f4, f5⟩ := ho.free))
  have h6 : RowS ((((((w3.setCell ⟨w.heap.size + 1 + 1, 0, none⟩ (.int .i64 t.x.a)).setCell ⟨w.heap.size + 1 + 1, 1, none⟩ (.int .i64 t.x.b)).setCell ⟨w.heap.size + 1 + 1, 2, none⟩ (.int .i64 t.y.a)).setCell ⟨w.heap.size + 1 + 1, 3, none⟩ (.int .i64 t.y.b)).setCell ⟨w.heap.size + 1 + 1, 4, none⟩ (.int .i64 t.z.a)).setCell ⟨w.heap.size + 1 + 1, 5, none⟩ (.int .i64 t.z.b)) (w.heap.size + 1 + 1) t := Row.store (Row.store (Row.store (Row.store (Row.store (Row.store ho 0 _) 1 _) 2 _) 3 _) 4 _) 5 _
  have hB6 : Below w.heap.size w ((((((w3.setCell ⟨w.heap.size + 1 + 1, 0, none⟩ (.int .i64 t.x.a)).setCell ⟨w.heap.size + 1 + 1, 1, none⟩ (.int .i64 t.x.b)).setCell ⟨w.heap.size + 1 + 1, 2, none⟩ (.int .i64 t.y.a)).setCell ⟨w.heap.size + 1 + 1, 3, none⟩ (.int .i64 t.y.b)).setCell ⟨w.heap.size + 1 + 1, 4, none⟩ (.int .i64 t.z.a)).setCell ⟨w.heap.size + 1 + 1, 5, none⟩ (.int .i64 t.z.b)) := (((((hb.b.setCell (by simp only []; omega) _).setCell (by simp only []; omega) _).setCell (by simp only []; omega) _).setCell (by simp only []; omega) _).setCell (by simp only []; omega) _).setCell (by simp only []; omega) _
  generalize ((((((w3.setCell ⟨w.heap.size + 1 + 1, 0, none⟩ (.int .i64 t.x.a)).setCell ⟨w.heap.size + 1 + 1, 1, none⟩ (.int .i64 t.x.b)).setCell ⟨w.heap.size + 1 + 1, 2, none⟩ (.int .i64 t.y.a)).setCell ⟨w.heap.size + 1 + 1, 3, none⟩ (.int .i64 t.y.b)).setCell ⟨w.heap.size + 1 + 1, 4, none⟩ (.int .i64 t.z.a)).setCell ⟨w.heap.size + 1 + 1, 5, none⟩ (.int .i64 t.z.b)) = W6 at *
  obtain ⟨p0, p1, p2, p3, p4, p5⟩ := h6.six
  exact bodyPost_ret (v := .tuple #[.agg #[.int .i64 t.x.a, .int .i64 t.x.b, .int .i64 t.y.a, .int .i64 t.y.b, .int .i64 t.z.a, .int .i64 t.z.b], .int .i64 0]) (by simp [results, Try.results23, go_sem, p0, p1, p2, p3, p4, p5]) rfl ⟨rfl, hB6⟩
theorem strp_any (n : Int) (s : Se) (w : World) :
    Calls Try.prog 23 #[.int .i64 n, s.val] w fun e w' => e = .returned (.tuple #[(strpC n s).val, .int .i64 (strpE n s)]) ∧ Below w.heap.size w w' := by
  cases hv : secB n with
  | false =>
    have e1 : strpC n s = default := by unfold strpC; rw [hv]; rfl
    have e2 : strpE n s = 110 := by unfold strpE; rw [hv]; rfl
    rw [e1, e2]; exact strp_no n s w hv
  | true =>
    cases hc : okS s with
    | false =>
      have e1 : strpC n s = default := by unfold strpC; rw [hv, hc]; rfl
      have e2 : strpE n s = 100 := by unfold strpE chS; rw [hv, hc]; rfl
      rw [e1, e2]; exact strp_bad n s w hv hc
    | true =>
      have e1 : strpC n s = s.map (stripC n) := by unfold strpC; rw [hv, hc]; rfl
      have e2 : strpE n s = 0 := by unfold strpE chS; rw [hv, hc]; rfl
      rw [e1, e2]; exact strp_ok n s w hv hc
end Go.Proofs.Ytlbnbginippjfaa
