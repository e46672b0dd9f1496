import Derived.Test.YtlbnbginippjfaaEl9
set_option linter.unusedSimpArgs false
set_option linter.unusedVariables false
namespace Go.Proofs.Ytlbnbginippjfaa
open Go.RowKit Go.Shelf Fk

set_option maxRecDepth 100000 in
set_option maxHeartbeats 2000000 in
theorem seal_no (key : Int) (t r : Tr) (w : World) (hv : vld key = false) :
    Calls Try.prog 16 #[.int .i64 key, t.val, r.val] w fun e w' => e = .returned (.tuple #[(default : Se).val, .int .i64 90]) ∧ Below w.heap.size w w' := by
  have hB : Below w.heap.size w (((w.alloc (.cells t.cells.toArray 30)).alloc (.cells r.cells.toArray 29)).alloc (.cells (default : Se).cells.toArray 34)) := (((Below.refl _ w).alloc (Nat.le_refl _) _).alloc (by simp) _).alloc (by simp; omega) _
  unfold Se.val Tr.val
  go_enter Try.func16, Try.ntmps16
  go_wp2_with (go_at_call 32; refine (valid_any _ _).mono ?_; rintro e w1 ⟨rfl, rfl⟩)
  exact bodyPost_ret (v := .tuple #[.agg #[.int .i64 0, .int .i64 0, .int .i64 0, .int .i64 0, .int .i64 0, .int .i64 0], .int .i64 90]) (by simp [results, Try.results16, go_sem]) rfl ⟨rfl, hB⟩

theorem elE_one {n : Int} (h : elE n ≠ 0) : elE n = 1 := by unfold elE at *; split at h <;> simp_all
theorem idx0 (t : Tr) (w : World) : (Instr.index 30 (.agg #[.int .i64 t.p, .int .i64 t.q, .int .i64 t.r]) (.int .i64 0)).run Try.prog w = .ok (.int .i64 t.p) w := by kernel_rfl
theorem idx1 (t : Tr) (w : World) : (Instr.index 30 (.agg #[.int .i64 t.p, .int .i64 t.q, .int .i64 t.r]) (.int .i64 1)).run Try.prog w = .ok (.int .i64 t.q) w := by kernel_rfl
theorem idx2 (t : Tr) (w : World) : (Instr.index 30 (.agg #[.int .i64 t.p, .int .i64 t.q, .int .i64 t.r]) (.int .i64 2)).run Try.prog w = .ok (.int .i64 t.r) w := by kernel_rfl
set_option maxRecDepth 100000 in
set_option maxHeartbeats 4000000 in
theorem seal_bad (key : Int) (t r : Tr) (w : World) (hv : vld key = true) (hw : wOK t = false) :
    Calls Try.prog 16 #[.int .i64 key, t.val, r.val] w fun e w' => e = .returned (.tuple #[(default : Se).val, .int .i64 100]) ∧ Below w.heap.size w w' := by
  have hB := fun (X : Obj) => (((Below.refl w.heap.size w).alloc (Nat.le_refl _) (.cells t.cells.toArray 30)).alloc (by simp) (.cells r.cells.toArray 29)).alloc (by simp; omega) X
  have HB := Lib.hid hB
  clear hB
  have hE := fun (n : Int) (w : World) => element_any n w
  have i0 := idx0 t
  have i1 := idx1 t
  have i2 := idx2 t
  unfold Se.val Tr.val
  by_cases h1 : elE t.p = 0
  · by_cases h2 : elE t.q = 0
    · have h3 : elE t.r ≠ 0 := fun h3 => by simp [wOK, h1, h2, h3] at hw
      have e1 := hE t.p
      have e2 := hE t.q
      have e3 := hE t.r
      rw [h1] at e1
      rw [h2] at e2
      rw [elE_one h3] at e3
      generalize elC t.p = x1 at e1
      generalize elC t.q = x2 at e2
      generalize elC t.r = x3 at e3
      have E1 := Lib.hid e1
      have E2 := Lib.hid e2
      have E3 := Lib.hid e3
      clear hE e1 e2 e3 h1 h2 h3 hw
      go_enter Try.func16, Try.ntmps16
      go_wp2_with (go_at_call 32; refine (valid_any _ _).mono ?_; rintro e w1 ⟨rfl, rfl⟩)
      refine wp_loop_rounds 3 ?_
      rw [rounds_succ]
      go_wp2_with (go_at_call 28; refine (E1.out _).mono ?_; rintro e w1 ⟨rfl, rfl⟩)
      rw [rounds_succ]
      go_wp2_with (go_at_call 28; refine (E2.out _).mono ?_; rintro e w1 ⟨rfl, rfl⟩)
      rw [rounds_succ]
      go_wp2_with (go_at_call 28; refine (E3.out _).mono ?_; rintro e w1 ⟨rfl, rfl⟩)
      exact bodyPost_ret (v := .tuple #[.agg #[.int .i64 0, .int .i64 0, .int .i64 0, .int .i64 0, .int .i64 0, .int .i64 0], .int .i64 100]) (by simp [results, Try.results16, go_sem]) rfl ⟨rfl, HB.out _⟩
    · have e1 := hE t.p
      have e2 := hE t.q
      rw [h1] at e1
      rw [elE_one h2] at e2
      generalize elC t.p = x1 at e1
      generalize elC t.q = x2 at e2
      have E1 := Lib.hid e1
      have E2 := Lib.hid e2
      clear hE e1 e2 h1 h2 hw
      go_enter Try.func16, Try.ntmps16
      go_wp2_with (go_at_call 32; refine (valid_any _ _).mono ?_; rintro e w1 ⟨rfl, rfl⟩)
      refine wp_loop_rounds 2 ?_
      rw [rounds_succ]
      go_wp2_with (go_at_call 28; refine (E1.out _).mono ?_; rintro e w1 ⟨rfl, rfl⟩)
      rw [rounds_succ]
      go_wp2_with (go_at_call 28; refine (E2.out _).mono ?_; rintro e w1 ⟨rfl, rfl⟩)
      exact bodyPost_ret (v := .tuple #[.agg #[.int .i64 0, .int .i64 0, .int .i64 0, .int .i64 0, .int .i64 0, .int .i64 0], .int .i64 100]) (by simp [results, Try.results16, go_sem]) rfl ⟨rfl, HB.out _⟩
  · have e1 := hE t.p
    rw [elE_one h1] at e1
    generalize elC t.p = x1 at e1
    have E1 := Lib.hid e1
    clear hE e1 h1 hw
    go_enter Try.func16, Try.ntmps16
    go_wp2_with (go_at_call 32; refine (valid_any _ _).mono ?_; rintro e w1 ⟨rfl, rfl⟩)
    refine wp_loop_rounds 1 ?_
    rw [rounds_succ]
    go_wp2_with (go_at_call 28; refine (E1.out _).mono ?_; rintro e w1 ⟨rfl, rfl⟩)
    exact bodyPost_ret (v := .tuple #[.agg #[.int .i64 0, .int .i64 0, .int .i64 0, .int .i64 0, .int .i64 0, .int .i64 0], .int .i64 100]) (by simp [results, Try.results16, go_sem]) rfl ⟨rfl, HB.out _⟩

/-- the world's own blocks in Seal, while others come -/
structure Sa (w : World) (r : Tr) (s : Se) (W : World) : Prop where
  r : Row W (w.heap.size + 1) 29 r.cells
  o : RowS W (w.heap.size + 1 + 1) s
  b : Below w.heap.size w W
theorem Sa.below {w W W' : World} {r : Tr} {s : Se} (h : Sa w r s W) (hb : Below W.heap.size W W') : Sa w r s W' :=
  ⟨Row.keep h.r (hb.block _ (Row.lt h.r)), Row.keep h.o (hb.block _ (Row.lt h.o)), h.b.trans (hb.mono h.b.size)⟩
theorem Sa.start (t r : Tr) (s : Se) (w : World) : Sa w r s (((w.alloc (.cells t.cells.toArray 30)).alloc (.cells r.cells.toArray 29)).alloc (.cells s.cells.toArray 34)) :=
  ⟨(row_at (by simp) _ _).alloc _, row_at (by simp) _ _, (((Below.refl _ w).alloc (Nat.le_refl _) _).alloc (by simp) _).alloc (by simp; omega) _⟩
theorem elC_bd {n : Int} (h : elE n = 0) : vld (elC n) = true := by
  have : 1 ≤ n ∧ n ≤ 1073741789 := elE_iff.1 (by rw [h]; rfl)
  exact vld_el this.1 this.2
theorem seal0_ok {t : Tr} (h : wOK t = true) : okS (seal0 t) = true := by
  simp only [wOK, Bool.and_eq_true, beq_iff_eq] at h
  obtain ⟨h1, h2, h3⟩ := h
  refine okS_iff.2 ⟨okC_iff.2 ⟨vld_1, elC_bd h1⟩, okC_iff.2 ⟨vld_1, elC_bd h2⟩, okC_iff.2 ⟨vld_1, elC_bd h3⟩⟩

set_option maxRecDepth 100000 in
set_option maxHeartbeats 4000000 in
theorem seal_ok (key : Int) (t r : Tr) (w : World) (hv : vld key = true) (hw : wOK t = true) :
    Calls Try.prog 16 #[.int .i64 key, t.val, r.val] w fun e w' => e = .returned (.tuple #[((seal0 t).map (moreC key r)).val, .int .i64 0]) ∧ Below w.heap.size w w' := by
  have hin := okS_inR (seal0_ok hw)
  have hcall := fun (br bk ab : Nat) (W : World) => changed_more (seal0 t) key r br bk ab W hin
  have hA := Sa.start t r (seal0 t) w
  have hE := fun (n : Int) (w : World) => element_any n w
  have i0 := idx0 t
  have i1 := idx1 t
  have i2 := idx2 t
  simp only [wOK, Bool.and_eq_true, beq_iff_eq] at hw
  obtain ⟨h1, h2, h3⟩ := hw
  have e1 := hE t.p
  have e2 := hE t.q
  have e3 := hE t.r
  rw [h1] at e1
  rw [h2] at e2
  rw [h3] at e3
  obtain ⟨S, hS⟩ : ∃ S : Se, (seal0 t).map (moreC key r) = S := ⟨_, rfl⟩
  rw [hS] at hcall ⊢
  unfold Se.val seal0 at hcall
  unfold seal0 at hA
  generalize elC t.p = x1 at e1 hcall hA
  generalize elC t.q = x2 at e2 hcall hA
  generalize elC t.r = x3 at e3 hcall hA
  have E1 := Lib.hid e1
  have E2 := Lib.hid e2
  have E3 := Lib.hid e3
  have HC := Lib.hid hcall
  have HA := Lib.hid hA
  clear hE e1 e2 e3 h1 h2 h3 hcall hA hin hS
  unfold Se.val Tr.val
  go_enter Try.func16, Try.ntmps16
  go_wp2_with (go_at_call 32; refine (valid_any _ _).mono ?_; rintro e w1 ⟨rfl, rfl⟩)
  refine wp_loop_rounds 4 ?_
  rw [rounds_succ]
  go_wp2_with (go_at_call 28; refine (E1.out _).mono ?_; rintro e w1 ⟨rfl, rfl⟩)
  rw [rounds_succ]
  go_wp2_with (go_at_call 28; refine (E2.out _).mono ?_; rintro e w1 ⟨rfl, rfl⟩)
  rw [rounds_succ]
  go_wp2_with (go_at_call 28; refine (E3.out _).mono ?_; rintro e w1 ⟨rfl, rfl⟩)
  rw [rounds_succ]
  go_wp2_with fail
  have hb := HA.out
  obtain ⟨W1, hW1⟩ : ∃ W1 : World, (((w.alloc (.cells #[.int .i64 t.p, .int .i64 t.q, .int .i64 t.r] 30)).alloc (.cells #[.int .i64 r.p, .int .i64 r.q, .int .i64 r.r] 29)).alloc (.cells #[.int .i64 1, .int .i64 x1, .int .i64 1, .int .i64 x2, .int .i64 1, .int .i64 x3] 34)) = W1 := ⟨_, rfl⟩
  rw [hW1]
  replace hb : Sa w r ⟨⟨1, x1⟩, ⟨1, x2⟩, ⟨1, x3⟩⟩ W1 := by rw [← hW1]; exact hb
  clear hW1 HA
  refine wp_region_ord 6 [(1, 0), (1, 1), (1, 2), (2, 3), (2, 4), (2, 5)] (Sa w r ⟨⟨1, x1⟩, ⟨1, x2⟩, ⟨1, x3⟩⟩) (by kernel_rfl) (by kernel_rfl) (fun _ _ d _ _ h => by cases d <;> exact h) (hb.below (Below.refl _ _).drew) ?_
  replace hb := hb.below (Below.refl _ _).drew
  iterate 3
    refine wpOrd_take (v := ?_) rfl (by rfl) (fun w hSw => ?_) ?_
    rotate_left 1
    · obtain ⟨q0, q1, q2, q3, q4, q5⟩ := hSw.o.six
      obtain ⟨r0, r1, r2⟩ := RowT.three hSw.r
      clear hSw
      go_simp
      with_reducible rfl
    simp only [Act.put, List.setIfInBounds_toArray, List.set_cons_zero, List.set_cons_succ]
  refine wpOrd_step rfl (fun K hK => ⟨by rfl, ?_⟩)
  go_simp
  go_at_call 41
  refine (more_any key r _).mono ?_
  rintro e w2 ⟨rfl, hw⟩
  have hb2 : Below W1.drew.heap.size W1.drew w2 := by rw [← hw]; exact ((Below.refl _ _).alloc (Nat.le_refl _) _).alloc (by simp) _
  have hk2 : Boxed w2 W1.drew.heap.size 3 (.int .i64 key) := by rw [← hw]; exact (Boxed.new _ _ _).alloc _
  have hr2 : Row w2 (W1.drew.heap.size + 1) 29 r.cells := by rw [← hw]; exact row_at (by simp) _ _
  clear hw
  replace hb := hb.below hb2
  refine hK _ _ hb ?_
  clear hK K hb2
  refine wpOrd_step rfl (fun K hK => ⟨by rfl, ?_⟩)
  go_simp
  have hb3 := hb.below (below_alloc w2 (Obj.cells #[.func (.func 60) #[] #[.pointer (some ⟨W1.drew.heap.size + 1, 0, none⟩), .pointer (some ⟨W1.drew.heap.size, 0, none⟩)]] 63))
  refine hK _ _ hb3 ?_
  clear hK K
  refine wpOrd_step rfl (fun K hK => ⟨by rfl, ?_⟩)
  go_simp
  go_at_call 40
  refine (HC.out _ _ _ _ (hr2.alloc _) (hk2.alloc _) (Boxed.new _ _ _)).mono ?_
  rintro e w3 ⟨rfl, hb4⟩
  replace hb := hb3.below hb4
  refine hK _ _ hb ?_
  clear hK K hb3 hb4 hr2 hk2
  refine wpOrd_nil ?_
  simp only [List.drop_succ_cons, List.drop_zero]
  have ho := hb.o
  obtain ⟨f0, f1, f2, f3, f4, f5⟩ := ho.free
  obtain ⟨q0, q1, q2, q3, q4, q5⟩ := ho.six
  go_wp2_with fail
  have h6 : RowS ((((((w3.setCell ⟨w.heap.size + 1 + 1, 0, none⟩ (.int .i64 S.x.a)).setCell ⟨w.heap.size + 1 + 1, 1, none⟩ (.int .i64 S.x.b)).setCell ⟨w.heap.size + 1 + 1, 2, none⟩ (.int .i64 S.y.a)).setCell ⟨w.heap.size + 1 + 1, 3, none⟩ (.int .i64 S.y.b)).setCell ⟨w.heap.size + 1 + 1, 4, none⟩ (.int .i64 S.z.a)).setCell ⟨w.heap.size + 1 + 1, 5, none⟩ (.int .i64 S.z.b)) (w.heap.size + 1 + 1) S := Row.store (Row.store (Row.store (Row.store (Row.store (Row.store ho 0 _) 1 _) 2 _) 3 _) 4 _) 5 _
  have hB6 : Below w.heap.size w ((((((w3.setCell ⟨w.heap.size + 1 + 1, 0, none⟩ (.int .i64 S.x.a)).setCell ⟨w.heap.size + 1 + 1, 1, none⟩ (.int .i64 S.x.b)).setCell ⟨w.heap.size + 1 + 1, 2, none⟩ (.int .i64 S.y.a)).setCell ⟨w.heap.size + 1 + 1, 3, none⟩ (.int .i64 S.y.b)).setCell ⟨w.heap.size + 1 + 1, 4, none⟩ (.int .i64 S.z.a)).setCell ⟨w.heap.size + 1 + 1, 5, none⟩ (.int .i64 S.z.b)) := (((((hb.b.setCell (by simp only []; omega) _).setCell (by simp only []; omega) _).setCell (by simp only []; omega) _).setCell (by simp only []; omega) _).setCell (by simp only []; omega) _).setCell (by simp only []; omega) _
  generalize ((((((w3.setCell ⟨w.heap.size + 1 + 1, 0, none⟩ (.int .i64 S.x.a)).setCell ⟨w.heap.size + 1 + 1, 1, none⟩ (.int .i64 S.x.b)).setCell ⟨w.heap.size + 1 + 1, 2, none⟩ (.int .i64 S.y.a)).setCell ⟨w.heap.size + 1 + 1, 3, none⟩ (.int .i64 S.y.b)).setCell ⟨w.heap.size + 1 + 1, 4, none⟩ (.int .i64 S.z.a)).setCell ⟨w.heap.size + 1 + 1, 5, none⟩ (.int .i64 S.z.b)) = W6 at *
  obtain ⟨p0, p1, p2, p3, p4, p5⟩ := h6.six
  exact bodyPost_ret (v := .tuple #[.agg #[.int .i64 S.x.a, .int .i64 S.x.b, .int .i64 S.y.a, .int .i64 S.y.b, .int .i64 S.z.a, .int .i64 S.z.b], .int .i64 0]) (by simp [results, Try.results16, go_sem, p0, p1, p2, p3, p4, p5]) rfl ⟨rfl, hB6⟩
theorem seal_any (key : Int) (t r : Tr) (w : World) :
    Calls Try.prog 16 #[.int .i64 key, t.val, r.val] w fun e w' => e = .returned (.tuple #[(sealC key t r).val, .int .i64 (sealE key t)]) ∧ Below w.heap.size w w' := by
  cases hv : vld key with
  | false =>
    have e1 : sealC key t r = default := by unfold sealC; rw [hv]; rfl
    have e2 : sealE key t = 90 := by unfold sealE; rw [hv]; rfl
    rw [e1, e2]; exact seal_no key t r w hv
  | true =>
    cases hw : wOK t with
    | false =>
      have e1 : sealC key t r = default := by unfold sealC; rw [hv, hw]; rfl
      have e2 : sealE key t = 100 := by unfold sealE; rw [hv, hw]; rfl
      rw [e1, e2]; exact seal_bad key t r w hv hw
    | true =>
      have e1 : sealC key t r = (seal0 t).map (moreC key r) := by unfold sealC; rw [hv, hw]; rfl
      have e2 : sealE key t = 0 := by unfold sealE; rw [hv, hw]; rfl
      rw [e1, e2]; exact seal_ok key t r w hv hw
end Go.Proofs.Ytlbnbginippjfaa
