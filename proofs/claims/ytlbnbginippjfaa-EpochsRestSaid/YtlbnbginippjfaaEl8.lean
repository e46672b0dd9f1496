import Derived.Test.YtlbnbginippjfaaEl7
set_option linter.unusedSimpArgs false
set_option linter.unusedVariables false
namespace Go.Proofs.Ytlbnbginippjfaa
open Go.RowKit Go.Shelf Fk

theorem okC_bd {c : Ci} (h : okC c = true) : (0 ≤ c.a ∧ c.a < 2147483579) ∧ (0 ≤ c.b ∧ c.b < 2147483579) := by
  obtain ⟨h1, h2⟩ := okC_iff.1 h
  have a1 := vld_lo h1
  have a2 := vld_hi h1
  have a3 := vld_lo h2
  have a4 := vld_hi h2
  exact ⟨⟨by omega, a2⟩, by omega, a4⟩
theorem okS_inR {s : Se} (h : okS s = true) : inR s := fun k _ => okC_bd (okS_get h k)
/-- the six cells, one by one -/
theorem RowS.six {W : World} {b : Nat} {s : Se} (h : RowS W b s) : W.cell? ⟨b, 0, none⟩ = some (.int .i64 s.x.a) ∧ W.cell? ⟨b, 1, none⟩ = some (.int .i64 s.x.b) ∧ W.cell? ⟨b, 2, none⟩ = some (.int .i64 s.y.a) ∧
    W.cell? ⟨b, 3, none⟩ = some (.int .i64 s.y.b) ∧ W.cell? ⟨b, 4, none⟩ = some (.int .i64 s.z.a) ∧ W.cell? ⟨b, 5, none⟩ = some (.int .i64 s.z.b) :=
  ⟨Row.cell h 0, Row.cell h 1, Row.cell h 2, Row.cell h 3, Row.cell h 4, Row.cell h 5⟩
theorem RowS.free {W : World} {b : Nat} {s : Se} (h : RowS W b s) : W.frozen? ⟨b, 0, none⟩ = false ∧ W.frozen? ⟨b, 1, none⟩ = false ∧ W.frozen? ⟨b, 2, none⟩ = false ∧ W.frozen? ⟨b, 3, none⟩ = false ∧ W.frozen? ⟨b, 4, none⟩ = false ∧ W.frozen? ⟨b, 5, none⟩ = false :=
  ⟨Row.frozen h 0, Row.frozen h 1, Row.frozen h 2, Row.frozen h 3, Row.frozen h 4, Row.frozen h 5⟩
theorem RowT.three {W : World} {b : Nat} {ty : TypeId} {t : Tr} (h : Row W b ty t.cells) : W.cell? ⟨b, 0, none⟩ = some (.int .i64 t.p) ∧ W.cell? ⟨b, 1, none⟩ = some (.int .i64 t.q) ∧ W.cell? ⟨b, 2, none⟩ = some (.int .i64 t.r) :=
  ⟨Row.cell h 0, Row.cell h 1, Row.cell h 2⟩
theorem RowT.free {W : World} {b : Nat} {ty : TypeId} {t : Tr} (h : Row W b ty t.cells) : W.frozen? ⟨b, 0, none⟩ = false ∧ W.frozen? ⟨b, 1, none⟩ = false ∧ W.frozen? ⟨b, 2, none⟩ = false :=
  ⟨Row.frozen h 0, Row.frozen h 1, Row.frozen h 2⟩
theorem again_start (s : Se) (r : Tr) (w : World) :
    (RowS (((w.alloc (.cells s.cells.toArray 34)).alloc (.cells r.cells.toArray 29)).alloc (.cells (default : Se).cells.toArray 34)) w.heap.size s ∧
     Row (((w.alloc (.cells s.cells.toArray 34)).alloc (.cells r.cells.toArray 29)).alloc (.cells (default : Se).cells.toArray 34)) (w.heap.size + 1) 29 r.cells ∧
     RowS (((w.alloc (.cells s.cells.toArray 34)).alloc (.cells r.cells.toArray 29)).alloc (.cells (default : Se).cells.toArray 34)) (w.heap.size + 1 + 1) default ∧
     Below w.heap.size w (((w.alloc (.cells s.cells.toArray 34)).alloc (.cells r.cells.toArray 29)).alloc (.cells (default : Se).cells.toArray 34))) :=
  ⟨((Row.new w _ _).alloc _).alloc _, (row_at (by simp) _ _).alloc _, row_at (by simp) _ _, (((Below.refl _ w).alloc (Nat.le_refl _) _).alloc (by simp) _).alloc (by simp; omega) _⟩
/-- the world's own blocks, while others come -/
structure Ag (w : World) (s : Se) (r : Tr) (W : World) : Prop where
  s : RowS W w.heap.size s
  r : Row W (w.heap.size + 1) 29 r.cells
  o : RowS W (w.heap.size + 1 + 1) default
  b : Below w.heap.size w W
theorem Ag.below {w W W' : World} {s : Se} {r : Tr} (h : Ag w s r W) (hb : Below W.heap.size W W') : Ag w s r W' :=
  ⟨Row.keep h.s (hb.block _ (Row.lt h.s)), Row.keep h.r (hb.block _ (Row.lt h.r)), Row.keep h.o (hb.block _ (Row.lt h.o)), h.b.trans (hb.mono h.b.size)⟩
theorem Ag.start (s : Se) (r : Tr) (w : World) : Ag w s r (((w.alloc (.cells s.cells.toArray 34)).alloc (.cells r.cells.toArray 29)).alloc (.cells (default : Se).cells.toArray 34)) := by
  obtain ⟨a, b, c, d⟩ := again_start s r w
  exact ⟨a, b, c, d⟩
set_option maxRecDepth 100000 in
set_option maxHeartbeats 2000000 in
theorem again_no (key : Int) (s : Se) (r : Tr) (w : World) (hv : vld key = false) :
    Calls Try.prog 18 #[.int .i64 key, s.val, r.val] w fun e w' => e = .returned (.tuple #[(default : Se).val, .int .i64 90]) ∧ Below w.heap.size w w' := by
  have hA := Ag.start s r w
  unfold Se.val Tr.val
  go_enter Try.func18, Try.ntmps18
  go_wp2_with (go_at_call 32; refine (valid_any _ _).mono ?_; rintro e w1 ⟨rfl, rfl⟩)
  exact bodyPost_ret (v := .tuple #[.agg #[.int .i64 0, .int .i64 0, .int .i64 0, .int .i64 0, .int .i64 0, .int .i64 0], .int .i64 90]) (by simp [results, Try.results18, go_sem]) rfl ⟨rfl, hA.b⟩
set_option maxRecDepth 100000 in
set_option maxHeartbeats 2000000 in
theorem again_bad (key : Int) (s : Se) (r : Tr) (w : World) (hv : vld key = true) (hc : okS s = false) :
    Calls Try.prog 18 #[.int .i64 key, s.val, r.val] w fun e w' => e = .returned (.tuple #[(default : Se).val, .int .i64 100]) ∧ Below w.heap.size w w' := by
  have hch := fun w => echeck_any s w
  have e3 : chS s = 100 := by unfold chS; rw [hc]; rfl
  rw [e3] at hch
  have hA := fun (W : World) (hb : Below (((w.alloc (.cells s.cells.toArray 34)).alloc (.cells r.cells.toArray 29)).alloc (.cells (default : Se).cells.toArray 34)).heap.size (((w.alloc (.cells s.cells.toArray 34)).alloc (.cells r.cells.toArray 29)).alloc (.cells (default : Se).cells.toArray 34)) W) => (Ag.start s r w).below hb
  unfold Se.val at hch
  obtain ⟨D, hD⟩ : ∃ D : Se, (default : Se) = D := ⟨_, rfl⟩
  have HD := Lib.hid hD
  have HCH := Lib.hid hch
  have HA := Lib.hid hA
  clear e3 hch hA hD
  unfold Se.val Tr.val
  go_enter Try.func18, Try.ntmps18
  go_wp2_with (first
    | (go_at_call 32; refine (valid_any _ _).mono ?_; rintro e w1 ⟨rfl, rfl⟩)
    | (go_at_call 25; refine (HCH.out _).mono ?_; rintro e w1 ⟨rfl, hb⟩; replace hb := HA.out _ hb; have ho := hb.o; rw [HD.out] at ho; obtain ⟨q0, q1, q2, q3, q4, q5⟩ := ho.six; obtain ⟨f0, f1, f2, f3, f4, f5⟩ := ho.free))
  have h6 : RowS ((((((w1.setCell ⟨w.heap.size + 1 + 1, 0, none⟩ (.int .i64 D.x.a)).setCell ⟨w.heap.size + 1 + 1, 1, none⟩ (.int .i64 D.x.b)).setCell ⟨w.heap.size + 1 + 1, 2, none⟩ (.int .i64 D.y.a)).setCell ⟨w.heap.size + 1 + 1, 3, none⟩ (.int .i64 D.y.b)).setCell ⟨w.heap.size + 1 + 1, 4, none⟩ (.int .i64 D.z.a)).setCell ⟨w.heap.size + 1 + 1, 5, none⟩ (.int .i64 D.z.b)) (w.heap.size + 1 + 1) D := Row.store (Row.store (Row.store (Row.store (Row.store (Row.store ho 0 _) 1 _) 2 _) 3 _) 4 _) 5 _
  have hB6 : Below w.heap.size w ((((((w1.setCell ⟨w.heap.size + 1 + 1, 0, none⟩ (.int .i64 D.x.a)).setCell ⟨w.heap.size + 1 + 1, 1, none⟩ (.int .i64 D.x.b)).setCell ⟨w.heap.size + 1 + 1, 2, none⟩ (.int .i64 D.y.a)).setCell ⟨w.heap.size + 1 + 1, 3, none⟩ (.int .i64 D.y.b)).setCell ⟨w.heap.size + 1 + 1, 4, none⟩ (.int .i64 D.z.a)).setCell ⟨w.heap.size + 1 + 1, 5, none⟩ (.int .i64 D.z.b)) := (((((hb.b.setCell (by simp only []; omega) _).setCell (by simp only []; omega) _).setCell (by simp only []; omega) _).setCell (by simp only []; omega) _).setCell (by simp only []; omega) _).setCell (by simp only []; omega) _
  generalize ((((((w1.setCell ⟨w.heap.size + 1 + 1, 0, none⟩ (.int .i64 D.x.a)).setCell ⟨w.heap.size + 1 + 1, 1, none⟩ (.int .i64 D.x.b)).setCell ⟨w.heap.size + 1 + 1, 2, none⟩ (.int .i64 D.y.a)).setCell ⟨w.heap.size + 1 + 1, 3, none⟩ (.int .i64 D.y.b)).setCell ⟨w.heap.size + 1 + 1, 4, none⟩ (.int .i64 D.z.a)).setCell ⟨w.heap.size + 1 + 1, 5, none⟩ (.int .i64 D.z.b)) = W6 at *
  obtain ⟨p0, p1, p2, p3, p4, p5⟩ := h6.six
  exact bodyPost_ret (v := .tuple #[.agg #[.int .i64 D.x.a, .int .i64 D.x.b, .int .i64 D.y.a, .int .i64 D.y.b, .int .i64 D.z.a, .int .i64 D.z.b], .int .i64 100]) (by simp [results, Try.results18, go_sem, p0, p1, p2, p3, p4, p5]) rfl ⟨by rw [← HD.out], hB6⟩

set_option maxRecDepth 100000 in
set_option maxHeartbeats 2000000 in
theorem again_ok (key : Int) (s : Se) (r : Tr) (w : World) (hv : vld key = true) (hc : okS s = true) :
    Calls Try.prog 18 #[.int .i64 key, s.val, r.val] w fun e w' => e = .returned (.tuple #[(s.map (moreC key r)).val, .int .i64 0]) ∧ Below w.heap.size w w' := by
  have hch := fun w => echeck_any s w
  have e3 : chS s = 0 := by unfold chS; rw [hc]; rfl
  rw [e3] at hch
  have hin := okS_inR hc
  have hA := fun (W : World) (hb : Below (((w.alloc (.cells s.cells.toArray 34)).alloc (.cells r.cells.toArray 29)).alloc (.cells (default : Se).cells.toArray 34)).heap.size (((w.alloc (.cells s.cells.toArray 34)).alloc (.cells r.cells.toArray 29)).alloc (.cells (default : Se).cells.toArray 34)) W) => (Ag.start s r w).below hb
  have hcall := fun (br bk ab : Nat) (W : World) => changed_more s key r br bk ab W hin
  obtain ⟨t, ht⟩ : ∃ t : Se, s.map (moreC key r) = t := ⟨_, rfl⟩
  rw [ht] at hcall ⊢
  unfold Se.val at hch hcall
  have HC := Lib.hid hcall
  have HCH := Lib.hid hch
  have HA := Lib.hid hA
  clear e3 hch hA hcall hin ht
  unfold Se.val Tr.val
  go_enter Try.func18, Try.ntmps18
  go_wp2_with (first
    | (go_at_call 32; refine (valid_any _ _).mono ?_; rintro e w1 ⟨rfl, rfl⟩)
    | (go_at_call 25; refine (HCH.out _).mono ?_; rintro e w1 ⟨rfl, hb⟩; replace hb := HA.out _ hb))
  refine wp_region_ord 6 [(1, 0), (1, 1), (1, 2), (2, 3), (2, 4), (2, 5)] (Ag w s r) (by kernel_rfl) (by kernel_rfl) (fun _ _ d _ _ h => by cases d <;> exact h) (hb.below (Below.refl _ _).drew) ?_
  replace hb := hb.below (Below.refl _ _).drew
  iterate 3
    refine wpOrd_take (v := ?_) rfl (by rfl) (fun w hSw => ?_) ?_
    rotate_left 1
    · obtain ⟨q0, q1, q2, q3, q4, q5⟩ := hSw.s.six
      obtain ⟨r0, r1, r2⟩ := RowT.three hSw.r
      clear hSw
      go_simp
      with_reducible rfl
    simp only [Act.put, List.setIfInBounds_toArray, List.set_cons_zero, List.set_cons_succ]
  refine wpOrd_step rfl (fun K hK => ⟨by rfl, ?_⟩)
  go_simp
  go_at_call 41
  refine (more_any key r _).mono ?_
  rintro e w2 ⟨rfl, hw⟩
  have hb2 : Below w1.drew.heap.size w1.drew w2 := by rw [← hw]; exact ((Below.refl _ _).alloc (Nat.le_refl _) _).alloc (by simp) _
  have hk2 : Boxed w2 w1.drew.heap.size 3 (.int .i64 key) := by rw [← hw]; exact (Boxed.new _ _ _).alloc _
  have hr2 : Row w2 (w1.drew.heap.size + 1) 29 r.cells := by rw [← hw]; exact row_at (by simp) _ _
  clear hw
  replace hb := hb.below hb2
  refine hK _ _ hb ?_
  clear hK K hb2
  refine wpOrd_step rfl (fun K hK => ⟨by rfl, ?_⟩)
  go_simp
  have hb3 := hb.below (below_alloc w2 (Obj.cells #[.func (.func 60) #[] #[.pointer (some ⟨w1.drew.heap.size + 1, 0, none⟩), .pointer (some ⟨w1.drew.heap.size, 0, none⟩)]] 63))
  refine hK _ _ hb3 ?_
  clear hK K
  refine wpOrd_step rfl (fun K hK => ⟨by rfl, ?_⟩)
  go_simp
  go_at_call 40
  refine (HC.out _ _ _ _ (hr2.alloc _) (hk2.alloc _) (Boxed.new _ _ _)).mono ?_
  rintro e w3 ⟨rfl, hb4⟩
  replace hb := hb3.below hb4
  refine hK _ _ hb ?_
  clear hK K hb3 hb4 hr2 hk2
  refine wpOrd_nil ?_
  simp only [List.drop_succ_cons, List.drop_zero]
  have ho := hb.o
  obtain ⟨f0, f1, f2, f3, f4, f5⟩ := ho.free
  obtain ⟨q0, q1, q2, q3, q4, q5⟩ := ho.six
  go_wp2_with fail
  have h6 : RowS ((((((w3.setCell ⟨w.heap.size + 1 + 1, 0, none⟩ (.int .i64 t.x.a)).setCell ⟨w.heap.size + 1 + 1, 1, none⟩ (.int .i64 t.x.b)).setCell ⟨w.heap.size + 1 + 1, 2, none⟩ (.int .i64 t.y.a)).setCell ⟨w.heap.size + 1 + 1, 3, none⟩ (.int .i64 t.y.b)).setCell ⟨w.heap.size + 1 + 1, 4, none⟩ (.int .i64 t.z.a)).setCell ⟨w.heap.size + 1 + 1, 5, none⟩ (.int .i64 t.z.b)) (w.heap.size + 1 + 1) t := Row.store (Row.store (Row.store (Row.store (Row.store (Row.store ho 0 _) 1 _) 2 _) 3 _) 4 _) 5 _
  have hB6 : Below w.heap.size w ((((((w3.setCell ⟨w.heap.size + 1 + 1, 0, none⟩ (.int .i64 t.x.a)).setCell ⟨w.heap.size + 1 + 1, 1, none⟩ (.int .i64 t.x.b)).setCell ⟨w.heap.size + 1 + 1, 2, none⟩ (.int .i64 t.y.a)).setCell ⟨w.heap.size + 1 + 1, 3, none⟩ (.int .i64 t.y.b)).setCell ⟨w.heap.size + 1 + 1, 4, none⟩ (.int .i64 t.z.a)).setCell ⟨w.heap.size + 1 + 1, 5, none⟩ (.int .i64 t.z.b)) := (((((hb.b.setCell (by simp only []; omega) _).setCell (by simp only []; omega) _).setCell (by simp only []; omega) _).setCell (by simp only []; omega) _).setCell (by simp only []; omega) _).setCell (by simp only []; omega) _
  generalize ((((((w3.setCell ⟨w.heap.size + 1 + 1, 0, none⟩ (.int .i64 t.x.a)).setCell ⟨w.heap.size + 1 + 1, 1, none⟩ (.int .i64 t.x.b)).setCell ⟨w.heap.size + 1 + 1, 2, none⟩ (.int .i64 t.y.a)).setCell ⟨w.heap.size + 1 + 1, 3, none⟩ (.int .i64 t.y.b)).setCell ⟨w.heap.size + 1 + 1, 4, none⟩ (.int .i64 t.z.a)).setCell ⟨w.heap.size + 1 + 1, 5, none⟩ (.int .i64 t.z.b)) = W6 at *
  obtain ⟨p0, p1, p2, p3, p4, p5⟩ := h6.six
  exact bodyPost_ret (v := .tuple #[.agg #[.int .i64 t.x.a, .int .i64 t.x.b, .int .i64 t.y.a, .int .i64 t.y.b, .int .i64 t.z.a, .int .i64 t.z.b], .int .i64 0]) (by simp [results, Try.results18, go_sem, p0, p1, p2, p3, p4, p5]) rfl ⟨rfl, hB6⟩
theorem again_any (key : Int) (s : Se) (r : Tr) (w : World) :
    Calls Try.prog 18 #[.int .i64 key, s.val, r.val] w fun e w' => e = .returned (.tuple #[(againC key s r).val, .int .i64 (againE key s)]) ∧ Below w.heap.size w w' := by
  cases hv : vld key with
  | false =>
    have e1 : againC key s r = default := by unfold againC; rw [hv]; rfl
    have e2 : againE key s = 90 := by unfold againE; rw [hv]; rfl
    rw [e1, e2]; exact again_no key s r w hv
  | true =>
    cases hc : okS s with
    | false =>
      have e1 : againC key s r = default := by unfold againC; rw [hv, hc]; rfl
      have e2 : againE key s = 100 := by unfold againE chS; rw [hv, hc]; rfl
      rw [e1, e2]; exact again_bad key s r w hv hc
    | true =>
      have e1 : againC key s r = s.map (moreC key r) := by unfold againC; rw [hv, hc]; rfl
      have e2 : againE key s = 0 := by unfold againE chS; rw [hv, hc]; rfl
      rw [e1, e2]; exact again_ok key s r w hv hc
end Go.Proofs.Ytlbnbginippjfaa
