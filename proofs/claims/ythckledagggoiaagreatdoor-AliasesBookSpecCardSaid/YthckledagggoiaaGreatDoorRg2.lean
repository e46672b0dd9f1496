import Derived.Test.YthckledagggoiaaGreatDoorPh
import Derived.Test.YthckledagggoiaaGreatDoorRg1
set_option linter.unusedSimpArgs false
set_option linter.unusedVariables false
namespace Go.Proofs.YthckledagggoiaaGreatDoor
open Go.RowKit Fk
/-! The registry: an entry is checked. -/
def valE (x : En) : Int := if validB x then 0 else 330
theorem valE_0 {x : En} (h : validB x = true) : valE x = 0 := by unfold valE; rw [if_pos h]
theorem valE_1 {x : En} (h : validB x = false) : valE x = 330 := by unfold valE; rw [h]; rfl
set_option maxRecDepth 100000 in
set_option maxHeartbeats 8000000 in
theorem echk_1 (no a b fr un kn gn : Int) (w : World) :
    Calls Tryz.prog 149 #[.agg #[.int .i64 no, .int .i64 1, .int .i64 a, .int .i64 b, .int .i64 fr, .int .i64 un, .int .i64 kn, .int .i64 gn]] w fun e w' => e = .returned (.int .i64 (valE ⟨no, 1, a, b, fr, un, kn, gn⟩)) ∧ Below w.heap.size w w' := by
  have hV : validB ⟨no, 1, a, b, fr, un, kn, gn⟩ = (livesB b && (idB no && (idB a && (spanB fr un && spanB kn gn)))) := rfl
  have r0 := Row.new w 49 [.int .i64 no, .int .i64 1, .int .i64 a, .int .i64 b, .int .i64 fr, .int .i64 un, .int .i64 kn, .int .i64 gn]
  have hB := below_alloc' w (.cells #[.int .i64 no, .int .i64 1, .int .i64 a, .int .i64 b, .int .i64 fr, .int .i64 un, .int .i64 kn, .int .i64 gn] 49)
  have HK := Lib.hid kinds_any
  have h1 := rid_any no
  have h2 := rid_any a
  have h3 := rspan_any fr un
  have h4 := rspan_any kn gn
  have h5 := kinds2_any a b
  go_enter Tryz.func149, Tryz.ntmps149
  obtain ⟨W, hW⟩ : ∃ W, w.alloc (.cells #[.int .i64 no, .int .i64 1, .int .i64 a, .int .i64 b, .int .i64 fr, .int .i64 un, .int .i64 kn, .int .i64 gn] 49) = W := ⟨_, rfl⟩
  replace r0 : Row W w.heap.size 49 [.int .i64 no, .int .i64 1, .int .i64 a, .int .i64 b, .int .i64 fr, .int .i64 un, .int .i64 kn, .int .i64 gn] := hW ▸ r0
  rw [hW] at hB
  go_upto_region 1 with fail
  try rw [hW]
  clear hW
  have hlo := r0.lt
  have c1 : W.cell? ⟨w.heap.size, 1, none⟩ = some (.int .i64 1) := r0.cell 1
  refine wp_region_tree 8 (.take 1 (.take 2 (.one 0 (.one 3 (.take 4 (.take 5 (.take 6 (.take 7 .done)))))))) (fun W' => Below W.heap.size W W') (by kernel_rfl) (by kernel_rfl) (fun _ _ d _ _ h => by cases d <;> exact h) (Below.refl _ _).drew ?_
  iterate 2
    refine wpTree_take (v := ?_) rfl (by kernel_rfl) (fun w' hSw => ?_) ?_
    rotate_left 1
    · have c0 := (hSw.cell (p := ⟨w.heap.size, 1, none⟩) hlo).trans c1
      go_simp
      with_reducible rfl
    simp only [Act.put, List.getElem_toArray, List.getElem_cons_succ, List.getElem_cons_zero, List.setIfInBounds_toArray, List.set_cons_zero, List.set_cons_succ]
  refine wpTree_one rfl (fun K hK => ⟨by kernel_rfl, ?_⟩)
  go_simp
  go_at_call 167
  refine (HK.out _).mono ?_
  rintro e w1 ⟨bm, rfl, hb, hm⟩
  have hb1 : Below W.heap.size W w1 := (Below.refl _ _).drew.trans hb
  refine hK _ _ hb1 ?_
  clear hK K
  try simp only [Act.put, List.getElem_toArray, List.getElem_cons_succ, List.getElem_cons_zero, List.setIfInBounds_toArray, List.set_cons_zero, List.set_cons_succ]
  have hl := hm.look law_int Tryz.underlying217 (show (zeroValue 157).run Tryz.prog w1 = .ok .nilFunc w1 by kernel_rfl) 1 true
  rw [kindF_1] at hl
  replace hl : (Instr.lookup 217 (.map (some bm)) (.int .i64 1) true).run Tryz.prog w1 = .ok (.tuple #[.func (Fn.func 185) #[] #[], .bool true]) w1 := hl
  refine wpTree_one rfl (fun K hK => ⟨by kernel_rfl, ?_⟩)
  go_simp
  refine hK _ _ hb1 ?_
  clear hK K
  try simp only [Act.put, List.getElem_toArray, List.getElem_cons_succ, List.getElem_cons_zero, List.setIfInBounds_toArray, List.set_cons_zero, List.set_cons_succ]
  iterate 4
    refine wpTree_take (v := ?_) rfl (by kernel_rfl) (fun w' hSw => ?_) ?_
    rotate_left 1
    · go_simp
      with_reducible rfl
    simp only [Act.put, List.getElem_toArray, List.getElem_cons_succ, List.getElem_cons_zero, List.setIfInBounds_toArray, List.set_cons_zero, List.set_cons_succ]
  refine wpTree_done ?_
  simp only [List.drop_succ_cons, List.drop_zero]
  have hB1 := hB.trans (hb1.mono hB.size)
  have r1 := r0.below hb1 hlo
  obtain ⟨e0, e1, e2, e3, e4, e5, e6, e7⟩ := st8e r1
  have hlo1 := r1.lt
  clear hl hm hb hb1 c1 r0 r1 hB hlo HK
  cases f0 : idB no with
  | false =>
    rw [f0] at h1
    have HV := Lib.hid (valE_1 (show validB ⟨no, 1, a, b, fr, un, kn, gn⟩ = false by rw [hV, f0]; simp))
    clear hV
    go_wp2_with (first
      | (go_at_call 168; (with_reducible refine (h1 _).mono ?_); rintro e x1 ⟨rfl, rfl⟩)
      | (go_at_call 168; (with_reducible refine (h2 _).mono ?_); rintro e x2 ⟨rfl, rfl⟩)
      | (go_at_call 169; (with_reducible refine (h3 _).mono ?_); rintro e x3 ⟨rfl, rfl⟩)
      | (go_at_call 169; (with_reducible refine (h4 _).mono ?_); rintro e x4 ⟨rfl, rfl⟩)
      | (go_at_call 185; (with_reducible refine (h5 _).mono ?_); rintro e x5 ⟨rfl, rfl⟩))
    go_ret
    exact ⟨by rw [HV.out]; rfl, hB1⟩
  | true =>
  rw [f0] at h1
  cases f1 : idB a with
  | false =>
    rw [f1] at h2
    have HV := Lib.hid (valE_1 (show validB ⟨no, 1, a, b, fr, un, kn, gn⟩ = false by rw [hV, f1]; simp))
    clear hV
    go_wp2_with (first
      | (go_at_call 168; (with_reducible refine (h1 _).mono ?_); rintro e x1 ⟨rfl, rfl⟩)
      | (go_at_call 168; (with_reducible refine (h2 _).mono ?_); rintro e x2 ⟨rfl, rfl⟩)
      | (go_at_call 169; (with_reducible refine (h3 _).mono ?_); rintro e x3 ⟨rfl, rfl⟩)
      | (go_at_call 169; (with_reducible refine (h4 _).mono ?_); rintro e x4 ⟨rfl, rfl⟩)
      | (go_at_call 185; (with_reducible refine (h5 _).mono ?_); rintro e x5 ⟨rfl, rfl⟩))
    go_ret
    exact ⟨by rw [HV.out]; rfl, hB1⟩
  | true =>
  rw [f1] at h2
  cases f2 : livesB b with
  | false =>
    rw [f2] at h5
    have HV := Lib.hid (valE_1 (show validB ⟨no, 1, a, b, fr, un, kn, gn⟩ = false by rw [hV, f2]; simp))
    clear hV
    go_wp2_with (first
      | (go_at_call 168; (with_reducible refine (h1 _).mono ?_); rintro e x1 ⟨rfl, rfl⟩)
      | (go_at_call 168; (with_reducible refine (h2 _).mono ?_); rintro e x2 ⟨rfl, rfl⟩)
      | (go_at_call 169; (with_reducible refine (h3 _).mono ?_); rintro e x3 ⟨rfl, rfl⟩)
      | (go_at_call 169; (with_reducible refine (h4 _).mono ?_); rintro e x4 ⟨rfl, rfl⟩)
      | (go_at_call 185; (with_reducible refine (h5 _).mono ?_); rintro e x5 ⟨rfl, rfl⟩))
    go_ret
    exact ⟨by rw [HV.out]; rfl, hB1⟩
  | true =>
  rw [f2] at h5
  cases f3 : spanB fr un with
  | false =>
    rw [f3] at h3
    have HV := Lib.hid (valE_1 (show validB ⟨no, 1, a, b, fr, un, kn, gn⟩ = false by rw [hV, f3]; simp))
    clear hV
    go_wp2_with (first
      | (go_at_call 168; (with_reducible refine (h1 _).mono ?_); rintro e x1 ⟨rfl, rfl⟩)
      | (go_at_call 168; (with_reducible refine (h2 _).mono ?_); rintro e x2 ⟨rfl, rfl⟩)
      | (go_at_call 169; (with_reducible refine (h3 _).mono ?_); rintro e x3 ⟨rfl, rfl⟩)
      | (go_at_call 169; (with_reducible refine (h4 _).mono ?_); rintro e x4 ⟨rfl, rfl⟩)
      | (go_at_call 185; (with_reducible refine (h5 _).mono ?_); rintro e x5 ⟨rfl, rfl⟩))
    go_ret
    exact ⟨by rw [HV.out]; rfl, hB1⟩
  | true =>
  rw [f3] at h3
  cases f4 : spanB kn gn with
  | false =>
    rw [f4] at h4
    have HV := Lib.hid (valE_1 (show validB ⟨no, 1, a, b, fr, un, kn, gn⟩ = false by rw [hV, f4]; simp))
    clear hV
    go_wp2_with (first
      | (go_at_call 168; (with_reducible refine (h1 _).mono ?_); rintro e x1 ⟨rfl, rfl⟩)
      | (go_at_call 168; (with_reducible refine (h2 _).mono ?_); rintro e x2 ⟨rfl, rfl⟩)
      | (go_at_call 169; (with_reducible refine (h3 _).mono ?_); rintro e x3 ⟨rfl, rfl⟩)
      | (go_at_call 169; (with_reducible refine (h4 _).mono ?_); rintro e x4 ⟨rfl, rfl⟩)
      | (go_at_call 185; (with_reducible refine (h5 _).mono ?_); rintro e x5 ⟨rfl, rfl⟩))
    go_ret
    exact ⟨by rw [HV.out]; rfl, hB1⟩
  | true =>
  rw [f4] at h4
  have HV := Lib.hid (valE_0 (show validB ⟨no, 1, a, b, fr, un, kn, gn⟩ = true by rw [hV, f0, f1, f2, f3, f4]; rfl))
  clear hV
  go_wp2_with (first
    | (go_at_call 168; (with_reducible refine (h1 _).mono ?_); rintro e x1 ⟨rfl, rfl⟩)
    | (go_at_call 168; (with_reducible refine (h2 _).mono ?_); rintro e x2 ⟨rfl, rfl⟩)
    | (go_at_call 169; (with_reducible refine (h3 _).mono ?_); rintro e x3 ⟨rfl, rfl⟩)
    | (go_at_call 169; (with_reducible refine (h4 _).mono ?_); rintro e x4 ⟨rfl, rfl⟩)
    | (go_at_call 185; (with_reducible refine (h5 _).mono ?_); rintro e x5 ⟨rfl, rfl⟩))
  go_ret
  exact ⟨by rw [HV.out]; rfl, hB1⟩
set_option maxRecDepth 100000 in
set_option maxHeartbeats 8000000 in
theorem echk_2 (no a b fr un kn gn : Int) (w : World) :
    Calls Tryz.prog 149 #[.agg #[.int .i64 no, .int .i64 2, .int .i64 a, .int .i64 b, .int .i64 fr, .int .i64 un, .int .i64 kn, .int .i64 gn]] w fun e w' => e = .returned (.int .i64 (valE ⟨no, 2, a, b, fr, un, kn, gn⟩)) ∧ Below w.heap.size w w' := by
  have hV : validB ⟨no, 2, a, b, fr, un, kn, gn⟩ = (agentB a b && (idB no && (idB a && (spanB fr un && spanB kn gn)))) := rfl
  have r0 := Row.new w 49 [.int .i64 no, .int .i64 2, .int .i64 a, .int .i64 b, .int .i64 fr, .int .i64 un, .int .i64 kn, .int .i64 gn]
  have hB := below_alloc' w (.cells #[.int .i64 no, .int .i64 2, .int .i64 a, .int .i64 b, .int .i64 fr, .int .i64 un, .int .i64 kn, .int .i64 gn] 49)
  have HK := Lib.hid kinds_any
  have h1 := rid_any no
  have h2 := rid_any a
  have h3 := rspan_any fr un
  have h4 := rspan_any kn gn
  have h5 := kinds3_any a b
  go_enter Tryz.func149, Tryz.ntmps149
  obtain ⟨W, hW⟩ : ∃ W, w.alloc (.cells #[.int .i64 no, .int .i64 2, .int .i64 a, .int .i64 b, .int .i64 fr, .int .i64 un, .int .i64 kn, .int .i64 gn] 49) = W := ⟨_, rfl⟩
  replace r0 : Row W w.heap.size 49 [.int .i64 no, .int .i64 2, .int .i64 a, .int .i64 b, .int .i64 fr, .int .i64 un, .int .i64 kn, .int .i64 gn] := hW ▸ r0
  rw [hW] at hB
  go_upto_region 1 with fail
  try rw [hW]
  clear hW
  have hlo := r0.lt
  have c1 : W.cell? ⟨w.heap.size, 1, none⟩ = some (.int .i64 2) := r0.cell 1
  refine wp_region_tree 8 (.take 1 (.take 2 (.one 0 (.one 3 (.take 4 (.take 5 (.take 6 (.take 7 .done)))))))) (fun W' => Below W.heap.size W W') (by kernel_rfl) (by kernel_rfl) (fun _ _ d _ _ h => by cases d <;> exact h) (Below.refl _ _).drew ?_
  iterate 2
    refine wpTree_take (v := ?_) rfl (by kernel_rfl) (fun w' hSw => ?_) ?_
    rotate_left 1
    · have c0 := (hSw.cell (p := ⟨w.heap.size, 1, none⟩) hlo).trans c1
      go_simp
      with_reducible rfl
    simp only [Act.put, List.getElem_toArray, List.getElem_cons_succ, List.getElem_cons_zero, List.setIfInBounds_toArray, List.set_cons_zero, List.set_cons_succ]
  refine wpTree_one rfl (fun K hK => ⟨by kernel_rfl, ?_⟩)
  go_simp
  go_at_call 167
  refine (HK.out _).mono ?_
  rintro e w1 ⟨bm, rfl, hb, hm⟩
  have hb1 : Below W.heap.size W w1 := (Below.refl _ _).drew.trans hb
  refine hK _ _ hb1 ?_
  clear hK K
  try simp only [Act.put, List.getElem_toArray, List.getElem_cons_succ, List.getElem_cons_zero, List.setIfInBounds_toArray, List.set_cons_zero, List.set_cons_succ]
  have hl := hm.look law_int Tryz.underlying217 (show (zeroValue 157).run Tryz.prog w1 = .ok .nilFunc w1 by kernel_rfl) 2 true
  rw [kindF_2] at hl
  replace hl : (Instr.lookup 217 (.map (some bm)) (.int .i64 2) true).run Tryz.prog w1 = .ok (.tuple #[.func (Fn.func 186) #[] #[], .bool true]) w1 := hl
  refine wpTree_one rfl (fun K hK => ⟨by kernel_rfl, ?_⟩)
  go_simp
  refine hK _ _ hb1 ?_
  clear hK K
  try simp only [Act.put, List.getElem_toArray, List.getElem_cons_succ, List.getElem_cons_zero, List.setIfInBounds_toArray, List.set_cons_zero, List.set_cons_succ]
  iterate 4
    refine wpTree_take (v := ?_) rfl (by kernel_rfl) (fun w' hSw => ?_) ?_
    rotate_left 1
    · go_simp
      with_reducible rfl
    simp only [Act.put, List.getElem_toArray, List.getElem_cons_succ, List.getElem_cons_zero, List.setIfInBounds_toArray, List.set_cons_zero, List.set_cons_succ]
  refine wpTree_done ?_
  simp only [List.drop_succ_cons, List.drop_zero]
  have hB1 := hB.trans (hb1.mono hB.size)
  have r1 := r0.below hb1 hlo
  obtain ⟨e0, e1, e2, e3, e4, e5, e6, e7⟩ := st8e r1
  have hlo1 := r1.lt
  clear hl hm hb hb1 c1 r0 r1 hB hlo HK
  cases f0 : idB no with
  | false =>
    rw [f0] at h1
    have HV := Lib.hid (valE_1 (show validB ⟨no, 2, a, b, fr, un, kn, gn⟩ = false by rw [hV, f0]; simp))
    clear hV
    go_wp2_with (first
      | (go_at_call 168; (with_reducible refine (h1 _).mono ?_); rintro e x1 ⟨rfl, rfl⟩)
      | (go_at_call 168; (with_reducible refine (h2 _).mono ?_); rintro e x2 ⟨rfl, rfl⟩)
      | (go_at_call 169; (with_reducible refine (h3 _).mono ?_); rintro e x3 ⟨rfl, rfl⟩)
      | (go_at_call 169; (with_reducible refine (h4 _).mono ?_); rintro e x4 ⟨rfl, rfl⟩)
      | (go_at_call 186; (with_reducible refine (h5 _).mono ?_); rintro e x5 ⟨rfl, rfl⟩))
    go_ret
    exact ⟨by rw [HV.out]; rfl, hB1⟩
  | true =>
  rw [f0] at h1
  cases f1 : idB a with
  | false =>
    rw [f1] at h2
    have HV := Lib.hid (valE_1 (show validB ⟨no, 2, a, b, fr, un, kn, gn⟩ = false by rw [hV, f1]; simp))
    clear hV
    go_wp2_with (first
      | (go_at_call 168; (with_reducible refine (h1 _).mono ?_); rintro e x1 ⟨rfl, rfl⟩)
      | (go_at_call 168; (with_reducible refine (h2 _).mono ?_); rintro e x2 ⟨rfl, rfl⟩)
      | (go_at_call 169; (with_reducible refine (h3 _).mono ?_); rintro e x3 ⟨rfl, rfl⟩)
      | (go_at_call 169; (with_reducible refine (h4 _).mono ?_); rintro e x4 ⟨rfl, rfl⟩)
      | (go_at_call 186; (with_reducible refine (h5 _).mono ?_); rintro e x5 ⟨rfl, rfl⟩))
    go_ret
    exact ⟨by rw [HV.out]; rfl, hB1⟩
  | true =>
  rw [f1] at h2
  cases f2 : agentB a b with
  | false =>
    rw [f2] at h5
    have HV := Lib.hid (valE_1 (show validB ⟨no, 2, a, b, fr, un, kn, gn⟩ = false by rw [hV, f2]; simp))
    clear hV
    go_wp2_with (first
      | (go_at_call 168; (with_reducible refine (h1 _).mono ?_); rintro e x1 ⟨rfl, rfl⟩)
      | (go_at_call 168; (with_reducible refine (h2 _).mono ?_); rintro e x2 ⟨rfl, rfl⟩)
      | (go_at_call 169; (with_reducible refine (h3 _).mono ?_); rintro e x3 ⟨rfl, rfl⟩)
      | (go_at_call 169; (with_reducible refine (h4 _).mono ?_); rintro e x4 ⟨rfl, rfl⟩)
      | (go_at_call 186; (with_reducible refine (h5 _).mono ?_); rintro e x5 ⟨rfl, rfl⟩))
    go_ret
    exact ⟨by rw [HV.out]; rfl, hB1⟩
  | true =>
  rw [f2] at h5
  cases f3 : spanB fr un with
  | false =>
    rw [f3] at h3
    have HV := Lib.hid (valE_1 (show validB ⟨no, 2, a, b, fr, un, kn, gn⟩ = false by rw [hV, f3]; simp))
    clear hV
    go_wp2_with (first
      | (go_at_call 168; (with_reducible refine (h1 _).mono ?_); rintro e x1 ⟨rfl, rfl⟩)
      | (go_at_call 168; (with_reducible refine (h2 _).mono ?_); rintro e x2 ⟨rfl, rfl⟩)
      | (go_at_call 169; (with_reducible refine (h3 _).mono ?_); rintro e x3 ⟨rfl, rfl⟩)
      | (go_at_call 169; (with_reducible refine (h4 _).mono ?_); rintro e x4 ⟨rfl, rfl⟩)
      | (go_at_call 186; (with_reducible refine (h5 _).mono ?_); rintro e x5 ⟨rfl, rfl⟩))
    go_ret
    exact ⟨by rw [HV.out]; rfl, hB1⟩
  | true =>
  rw [f3] at h3
  cases f4 : spanB kn gn with
  | false =>
    rw [f4] at h4
    have HV := Lib.hid (valE_1 (show validB ⟨no, 2, a, b, fr, un, kn, gn⟩ = false by rw [hV, f4]; simp))
    clear hV
    go_wp2_with (first
      | (go_at_call 168; (with_reducible refine (h1 _).mono ?_); rintro e x1 ⟨rfl, rfl⟩)
      | (go_at_call 168; (with_reducible refine (h2 _).mono ?_); rintro e x2 ⟨rfl, rfl⟩)
      | (go_at_call 169; (with_reducible refine (h3 _).mono ?_); rintro e x3 ⟨rfl, rfl⟩)
      | (go_at_call 169; (with_reducible refine (h4 _).mono ?_); rintro e x4 ⟨rfl, rfl⟩)
      | (go_at_call 186; (with_reducible refine (h5 _).mono ?_); rintro e x5 ⟨rfl, rfl⟩))
    go_ret
    exact ⟨by rw [HV.out]; rfl, hB1⟩
  | true =>
  rw [f4] at h4
  have HV := Lib.hid (valE_0 (show validB ⟨no, 2, a, b, fr, un, kn, gn⟩ = true by rw [hV, f0, f1, f2, f3, f4]; rfl))
  clear hV
  go_wp2_with (first
    | (go_at_call 168; (with_reducible refine (h1 _).mono ?_); rintro e x1 ⟨rfl, rfl⟩)
    | (go_at_call 168; (with_reducible refine (h2 _).mono ?_); rintro e x2 ⟨rfl, rfl⟩)
    | (go_at_call 169; (with_reducible refine (h3 _).mono ?_); rintro e x3 ⟨rfl, rfl⟩)
    | (go_at_call 169; (with_reducible refine (h4 _).mono ?_); rintro e x4 ⟨rfl, rfl⟩)
    | (go_at_call 186; (with_reducible refine (h5 _).mono ?_); rintro e x5 ⟨rfl, rfl⟩))
  go_ret
  exact ⟨by rw [HV.out]; rfl, hB1⟩
set_option maxRecDepth 100000 in
set_option maxHeartbeats 8000000 in
theorem echk_3 (no a b fr un kn gn : Int) (w : World) :
    Calls Tryz.prog 149 #[.agg #[.int .i64 no, .int .i64 3, .int .i64 a, .int .i64 b, .int .i64 fr, .int .i64 un, .int .i64 kn, .int .i64 gn]] w fun e w' => e = .returned (.int .i64 (valE ⟨no, 3, a, b, fr, un, kn, gn⟩)) ∧ Below w.heap.size w w' := by
  have hV : validB ⟨no, 3, a, b, fr, un, kn, gn⟩ = ((b == 0) && (idB no && (idB a && (spanB fr un && spanB kn gn)))) := rfl
  have r0 := Row.new w 49 [.int .i64 no, .int .i64 3, .int .i64 a, .int .i64 b, .int .i64 fr, .int .i64 un, .int .i64 kn, .int .i64 gn]
  have hB := below_alloc' w (.cells #[.int .i64 no, .int .i64 3, .int .i64 a, .int .i64 b, .int .i64 fr, .int .i64 un, .int .i64 kn, .int .i64 gn] 49)
  have HK := Lib.hid kinds_any
  have h1 := rid_any no
  have h2 := rid_any a
  have h3 := rspan_any fr un
  have h4 := rspan_any kn gn
  have h5 := kinds1_any a b
  go_enter Tryz.func149, Tryz.ntmps149
  obtain ⟨W, hW⟩ : ∃ W, w.alloc (.cells #[.int .i64 no, .int .i64 3, .int .i64 a, .int .i64 b, .int .i64 fr, .int .i64 un, .int .i64 kn, .int .i64 gn] 49) = W := ⟨_, rfl⟩
  replace r0 : Row W w.heap.size 49 [.int .i64 no, .int .i64 3, .int .i64 a, .int .i64 b, .int .i64 fr, .int .i64 un, .int .i64 kn, .int .i64 gn] := hW ▸ r0
  rw [hW] at hB
  go_upto_region 1 with fail
  try rw [hW]
  clear hW
  have hlo := r0.lt
  have c1 : W.cell? ⟨w.heap.size, 1, none⟩ = some (.int .i64 3) := r0.cell 1
  refine wp_region_tree 8 (.take 1 (.take 2 (.one 0 (.one 3 (.take 4 (.take 5 (.take 6 (.take 7 .done)))))))) (fun W' => Below W.heap.size W W') (by kernel_rfl) (by kernel_rfl) (fun _ _ d _ _ h => by cases d <;> exact h) (Below.refl _ _).drew ?_
  iterate 2
    refine wpTree_take (v := ?_) rfl (by kernel_rfl) (fun w' hSw => ?_) ?_
    rotate_left 1
    · have c0 := (hSw.cell (p := ⟨w.heap.size, 1, none⟩) hlo).trans c1
      go_simp
      with_reducible rfl
    simp only [Act.put, List.getElem_toArray, List.getElem_cons_succ, List.getElem_cons_zero, List.setIfInBounds_toArray, List.set_cons_zero, List.set_cons_succ]
  refine wpTree_one rfl (fun K hK => ⟨by kernel_rfl, ?_⟩)
  go_simp
  go_at_call 167
  refine (HK.out _).mono ?_
  rintro e w1 ⟨bm, rfl, hb, hm⟩
  have hb1 : Below W.heap.size W w1 := (Below.refl _ _).drew.trans hb
  refine hK _ _ hb1 ?_
  clear hK K
  try simp only [Act.put, List.getElem_toArray, List.getElem_cons_succ, List.getElem_cons_zero, List.setIfInBounds_toArray, List.set_cons_zero, List.set_cons_succ]
  have hl := hm.look law_int Tryz.underlying217 (show (zeroValue 157).run Tryz.prog w1 = .ok .nilFunc w1 by kernel_rfl) 3 true
  rw [kindF_3] at hl
  replace hl : (Instr.lookup 217 (.map (some bm)) (.int .i64 3) true).run Tryz.prog w1 = .ok (.tuple #[.func (Fn.func 184) #[] #[], .bool true]) w1 := hl
  refine wpTree_one rfl (fun K hK => ⟨by kernel_rfl, ?_⟩)
  go_simp
  refine hK _ _ hb1 ?_
  clear hK K
  try simp only [Act.put, List.getElem_toArray, List.getElem_cons_succ, List.getElem_cons_zero, List.setIfInBounds_toArray, List.set_cons_zero, List.set_cons_succ]
  iterate 4
    refine wpTree_take (v := ?_) rfl (by kernel_rfl) (fun w' hSw => ?_) ?_
    rotate_left 1
    · go_simp
      with_reducible rfl
    simp only [Act.put, List.getElem_toArray, List.getElem_cons_succ, List.getElem_cons_zero, List.setIfInBounds_toArray, List.set_cons_zero, List.set_cons_succ]
  refine wpTree_done ?_
  simp only [List.drop_succ_cons, List.drop_zero]
  have hB1 := hB.trans (hb1.mono hB.size)
  have r1 := r0.below hb1 hlo
  obtain ⟨e0, e1, e2, e3, e4, e5, e6, e7⟩ := st8e r1
  have hlo1 := r1.lt
  clear hl hm hb hb1 c1 r0 r1 hB hlo HK
  cases f0 : idB no with
  | false =>
    rw [f0] at h1
    have HV := Lib.hid (valE_1 (show validB ⟨no, 3, a, b, fr, un, kn, gn⟩ = false by rw [hV, f0]; simp))
    clear hV
    go_wp2_with (first
      | (go_at_call 168; (with_reducible refine (h1 _).mono ?_); rintro e x1 ⟨rfl, rfl⟩)
      | (go_at_call 168; (with_reducible refine (h2 _).mono ?_); rintro e x2 ⟨rfl, rfl⟩)
      | (go_at_call 169; (with_reducible refine (h3 _).mono ?_); rintro e x3 ⟨rfl, rfl⟩)
      | (go_at_call 169; (with_reducible refine (h4 _).mono ?_); rintro e x4 ⟨rfl, rfl⟩)
      | (go_at_call 184; (with_reducible refine (h5 _).mono ?_); rintro e x5 ⟨rfl, rfl⟩))
    go_ret
    exact ⟨by rw [HV.out]; rfl, hB1⟩
  | true =>
  rw [f0] at h1
  cases f1 : idB a with
  | false =>
    rw [f1] at h2
    have HV := Lib.hid (valE_1 (show validB ⟨no, 3, a, b, fr, un, kn, gn⟩ = false by rw [hV, f1]; simp))
    clear hV
    go_wp2_with (first
      | (go_at_call 168; (with_reducible refine (h1 _).mono ?_); rintro e x1 ⟨rfl, rfl⟩)
      | (go_at_call 168; (with_reducible refine (h2 _).mono ?_); rintro e x2 ⟨rfl, rfl⟩)
      | (go_at_call 169; (with_reducible refine (h3 _).mono ?_); rintro e x3 ⟨rfl, rfl⟩)
      | (go_at_call 169; (with_reducible refine (h4 _).mono ?_); rintro e x4 ⟨rfl, rfl⟩)
      | (go_at_call 184; (with_reducible refine (h5 _).mono ?_); rintro e x5 ⟨rfl, rfl⟩))
    go_ret
    exact ⟨by rw [HV.out]; rfl, hB1⟩
  | true =>
  rw [f1] at h2
  cases f2 : (b == 0) with
  | false =>
    rw [f2] at h5
    have HV := Lib.hid (valE_1 (show validB ⟨no, 3, a, b, fr, un, kn, gn⟩ = false by rw [hV, f2]; simp))
    clear hV
    go_wp2_with (first
      | (go_at_call 168; (with_reducible refine (h1 _).mono ?_); rintro e x1 ⟨rfl, rfl⟩)
      | (go_at_call 168; (with_reducible refine (h2 _).mono ?_); rintro e x2 ⟨rfl, rfl⟩)
      | (go_at_call 169; (with_reducible refine (h3 _).mono ?_); rintro e x3 ⟨rfl, rfl⟩)
      | (go_at_call 169; (with_reducible refine (h4 _).mono ?_); rintro e x4 ⟨rfl, rfl⟩)
      | (go_at_call 184; (with_reducible refine (h5 _).mono ?_); rintro e x5 ⟨rfl, rfl⟩))
    go_ret
    exact ⟨by rw [HV.out]; rfl, hB1⟩
  | true =>
  rw [f2] at h5
  cases f3 : spanB fr un with
  | false =>
    rw [f3] at h3
    have HV := Lib.hid (valE_1 (show validB ⟨no, 3, a, b, fr, un, kn, gn⟩ = false by rw [hV, f3]; simp))
    clear hV
    go_wp2_with (first
      | (go_at_call 168; (with_reducible refine (h1 _).mono ?_); rintro e x1 ⟨rfl, rfl⟩)
      | (go_at_call 168; (with_reducible refine (h2 _).mono ?_); rintro e x2 ⟨rfl, rfl⟩)
      | (go_at_call 169; (with_reducible refine (h3 _).mono ?_); rintro e x3 ⟨rfl, rfl⟩)
      | (go_at_call 169; (with_reducible refine (h4 _).mono ?_); rintro e x4 ⟨rfl, rfl⟩)
      | (go_at_call 184; (with_reducible refine (h5 _).mono ?_); rintro e x5 ⟨rfl, rfl⟩))
    go_ret
    exact ⟨by rw [HV.out]; rfl, hB1⟩
  | true =>
  rw [f3] at h3
  cases f4 : spanB kn gn with
  | false =>
    rw [f4] at h4
    have HV := Lib.hid (valE_1 (show validB ⟨no, 3, a, b, fr, un, kn, gn⟩ = false by rw [hV, f4]; simp))
    clear hV
    go_wp2_with (first
      | (go_at_call 168; (with_reducible refine (h1 _).mono ?_); rintro e x1 ⟨rfl, rfl⟩)
      | (go_at_call 168; (with_reducible refine (h2 _).mono ?_); rintro e x2 ⟨rfl, rfl⟩)
      | (go_at_call 169; (with_reducible refine (h3 _).mono ?_); rintro e x3 ⟨rfl, rfl⟩)
      | (go_at_call 169; (with_reducible refine (h4 _).mono ?_); rintro e x4 ⟨rfl, rfl⟩)
      | (go_at_call 184; (with_reducible refine (h5 _).mono ?_); rintro e x5 ⟨rfl, rfl⟩))
    go_ret
    exact ⟨by rw [HV.out]; rfl, hB1⟩
  | true =>
  rw [f4] at h4
  have HV := Lib.hid (valE_0 (show validB ⟨no, 3, a, b, fr, un, kn, gn⟩ = true by rw [hV, f0, f1, f2, f3, f4]; rfl))
  clear hV
  go_wp2_with (first
    | (go_at_call 168; (with_reducible refine (h1 _).mono ?_); rintro e x1 ⟨rfl, rfl⟩)
    | (go_at_call 168; (with_reducible refine (h2 _).mono ?_); rintro e x2 ⟨rfl, rfl⟩)
    | (go_at_call 169; (with_reducible refine (h3 _).mono ?_); rintro e x3 ⟨rfl, rfl⟩)
    | (go_at_call 169; (with_reducible refine (h4 _).mono ?_); rintro e x4 ⟨rfl, rfl⟩)
    | (go_at_call 184; (with_reducible refine (h5 _).mono ?_); rintro e x5 ⟨rfl, rfl⟩))
  go_ret
  exact ⟨by rw [HV.out]; rfl, hB1⟩
set_option maxRecDepth 100000 in
set_option maxHeartbeats 8000000 in
theorem echk_4 (no a b fr un kn gn : Int) (w : World) :
    Calls Tryz.prog 149 #[.agg #[.int .i64 no, .int .i64 4, .int .i64 a, .int .i64 b, .int .i64 fr, .int .i64 un, .int .i64 kn, .int .i64 gn]] w fun e w' => e = .returned (.int .i64 (valE ⟨no, 4, a, b, fr, un, kn, gn⟩)) ∧ Below w.heap.size w w' := by
  have hV : validB ⟨no, 4, a, b, fr, un, kn, gn⟩ = ((b == 0) && (idB no && (idB a && (spanB fr un && spanB kn gn)))) := rfl
  have r0 := Row.new w 49 [.int .i64 no, .int .i64 4, .int .i64 a, .int .i64 b, .int .i64 fr, .int .i64 un, .int .i64 kn, .int .i64 gn]
  have hB := below_alloc' w (.cells #[.int .i64 no, .int .i64 4, .int .i64 a, .int .i64 b, .int .i64 fr, .int .i64 un, .int .i64 kn, .int .i64 gn] 49)
  have HK := Lib.hid kinds_any
  have h1 := rid_any no
  have h2 := rid_any a
  have h3 := rspan_any fr un
  have h4 := rspan_any kn gn
  have h5 := kinds1_any a b
  go_enter Tryz.func149, Tryz.ntmps149
  obtain ⟨W, hW⟩ : ∃ W, w.alloc (.cells #[.int .i64 no, .int .i64 4, .int .i64 a, .int .i64 b, .int .i64 fr, .int .i64 un, .int .i64 kn, .int .i64 gn] 49) = W := ⟨_, rfl⟩
  replace r0 : Row W w.heap.size 49 [.int .i64 no, .int .i64 4, .int .i64 a, .int .i64 b, .int .i64 fr, .int .i64 un, .int .i64 kn, .int .i64 gn] := hW ▸ r0
  rw [hW] at hB
  go_upto_region 1 with fail
  try rw [hW]
  clear hW
  have hlo := r0.lt
  have c1 : W.cell? ⟨w.heap.size, 1, none⟩ = some (.int .i64 4) := r0.cell 1
  refine wp_region_tree 8 (.take 1 (.take 2 (.one 0 (.one 3 (.take 4 (.take 5 (.take 6 (.take 7 .done)))))))) (fun W' => Below W.heap.size W W') (by kernel_rfl) (by kernel_rfl) (fun _ _ d _ _ h => by cases d <;> exact h) (Below.refl _ _).drew ?_
  iterate 2
    refine wpTree_take (v := ?_) rfl (by kernel_rfl) (fun w' hSw => ?_) ?_
    rotate_left 1
    · have c0 := (hSw.cell (p := ⟨w.heap.size, 1, none⟩) hlo).trans c1
      go_simp
      with_reducible rfl
    simp only [Act.put, List.getElem_toArray, List.getElem_cons_succ, List.getElem_cons_zero, List.setIfInBounds_toArray, List.set_cons_zero, List.set_cons_succ]
  refine wpTree_one rfl (fun K hK => ⟨by kernel_rfl, ?_⟩)
  go_simp
  go_at_call 167
  refine (HK.out _).mono ?_
  rintro e w1 ⟨bm, rfl, hb, hm⟩
  have hb1 : Below W.heap.size W w1 := (Below.refl _ _).drew.trans hb
  refine hK _ _ hb1 ?_
  clear hK K
  try simp only [Act.put, List.getElem_toArray, List.getElem_cons_succ, List.getElem_cons_zero, List.setIfInBounds_toArray, List.set_cons_zero, List.set_cons_succ]
  have hl := hm.look law_int Tryz.underlying217 (show (zeroValue 157).run Tryz.prog w1 = .ok .nilFunc w1 by kernel_rfl) 4 true
  rw [kindF_4] at hl
  replace hl : (Instr.lookup 217 (.map (some bm)) (.int .i64 4) true).run Tryz.prog w1 = .ok (.tuple #[.func (Fn.func 184) #[] #[], .bool true]) w1 := hl
  refine wpTree_one rfl (fun K hK => ⟨by kernel_rfl, ?_⟩)
  go_simp
  refine hK _ _ hb1 ?_
  clear hK K
  try simp only [Act.put, List.getElem_toArray, List.getElem_cons_succ, List.getElem_cons_zero, List.setIfInBounds_toArray, List.set_cons_zero, List.set_cons_succ]
  iterate 4
    refine wpTree_take (v := ?_) rfl (by kernel_rfl) (fun w' hSw => ?_) ?_
    rotate_left 1
    · go_simp
      with_reducible rfl
    simp only [Act.put, List.getElem_toArray, List.getElem_cons_succ, List.getElem_cons_zero, List.setIfInBounds_toArray, List.set_cons_zero, List.set_cons_succ]
  refine wpTree_done ?_
  simp only [List.drop_succ_cons, List.drop_zero]
  have hB1 := hB.trans (hb1.mono hB.size)
  have r1 := r0.below hb1 hlo
  obtain ⟨e0, e1, e2, e3, e4, e5, e6, e7⟩ := st8e r1
  have hlo1 := r1.lt
  clear hl hm hb hb1 c1 r0 r1 hB hlo HK
  cases f0 : idB no with
  | false =>
    rw [f0] at h1
    have HV := Lib.hid (valE_1 (show validB ⟨no, 4, a, b, fr, un, kn, gn⟩ = false by rw [hV, f0]; simp))
    clear hV
    go_wp2_with (first
      | (go_at_call 168; (with_reducible refine (h1 _).mono ?_); rintro e x1 ⟨rfl, rfl⟩)
      | (go_at_call 168; (with_reducible refine (h2 _).mono ?_); rintro e x2 ⟨rfl, rfl⟩)
      | (go_at_call 169; (with_reducible refine (h3 _).mono ?_); rintro e x3 ⟨rfl, rfl⟩)
      | (go_at_call 169; (with_reducible refine (h4 _).mono ?_); rintro e x4 ⟨rfl, rfl⟩)
      | (go_at_call 184; (with_reducible refine (h5 _).mono ?_); rintro e x5 ⟨rfl, rfl⟩))
    go_ret
    exact ⟨by rw [HV.out]; rfl, hB1⟩
  | true =>
  rw [f0] at h1
  cases f1 : idB a with
  | false =>
    rw [f1] at h2
    have HV := Lib.hid (valE_1 (show validB ⟨no, 4, a, b, fr, un, kn, gn⟩ = false by rw [hV, f1]; simp))
    clear hV
    go_wp2_with (first
      | (go_at_call 168; (with_reducible refine (h1 _).mono ?_); rintro e x1 ⟨rfl, rfl⟩)
      | (go_at_call 168; (with_reducible refine (h2 _).mono ?_); rintro e x2 ⟨rfl, rfl⟩)
      | (go_at_call 169; (with_reducible refine (h3 _).mono ?_); rintro e x3 ⟨rfl, rfl⟩)
      | (go_at_call 169; (with_reducible refine (h4 _).mono ?_); rintro e x4 ⟨rfl, rfl⟩)
      | (go_at_call 184; (with_reducible refine (h5 _).mono ?_); rintro e x5 ⟨rfl, rfl⟩))
    go_ret
    exact ⟨by rw [HV.out]; rfl, hB1⟩
  | true =>
  rw [f1] at h2
  cases f2 : (b == 0) with
  | false =>
    rw [f2] at h5
    have HV := Lib.hid (valE_1 (show validB ⟨no, 4, a, b, fr, un, kn, gn⟩ = false by rw [hV, f2]; simp))
    clear hV
    go_wp2_with (first
      | (go_at_call 168; (with_reducible refine (h1 _).mono ?_); rintro e x1 ⟨rfl, rfl⟩)
      | (go_at_call 168; (with_reducible refine (h2 _).mono ?_); rintro e x2 ⟨rfl, rfl⟩)
      | (go_at_call 169; (with_reducible refine (h3 _).mono ?_); rintro e x3 ⟨rfl, rfl⟩)
      | (go_at_call 169; (with_reducible refine (h4 _).mono ?_); rintro e x4 ⟨rfl, rfl⟩)
      | (go_at_call 184; (with_reducible refine (h5 _).mono ?_); rintro e x5 ⟨rfl, rfl⟩))
    go_ret
    exact ⟨by rw [HV.out]; rfl, hB1⟩
  | true =>
  rw [f2] at h5
  cases f3 : spanB fr un with
  | false =>
    rw [f3] at h3
    have HV := Lib.hid (valE_1 (show validB ⟨no, 4, a, b, fr, un, kn, gn⟩ = false by rw [hV, f3]; simp))
    clear hV
    go_wp2_with (first
      | (go_at_call 168; (with_reducible refine (h1 _).mono ?_); rintro e x1 ⟨rfl, rfl⟩)
      | (go_at_call 168; (with_reducible refine (h2 _).mono ?_); rintro e x2 ⟨rfl, rfl⟩)
      | (go_at_call 169; (with_reducible refine (h3 _).mono ?_); rintro e x3 ⟨rfl, rfl⟩)
      | (go_at_call 169; (with_reducible refine (h4 _).mono ?_); rintro e x4 ⟨rfl, rfl⟩)
      | (go_at_call 184; (with_reducible refine (h5 _).mono ?_); rintro e x5 ⟨rfl, rfl⟩))
    go_ret
    exact ⟨by rw [HV.out]; rfl, hB1⟩
  | true =>
  rw [f3] at h3
  cases f4 : spanB kn gn with
  | false =>
    rw [f4] at h4
    have HV := Lib.hid (valE_1 (show validB ⟨no, 4, a, b, fr, un, kn, gn⟩ = false by rw [hV, f4]; simp))
    clear hV
    go_wp2_with (first
      | (go_at_call 168; (with_reducible refine (h1 _).mono ?_); rintro e x1 ⟨rfl, rfl⟩)
      | (go_at_call 168; (with_reducible refine (h2 _).mono ?_); rintro e x2 ⟨rfl, rfl⟩)
      | (go_at_call 169; (with_reducible refine (h3 _).mono ?_); rintro e x3 ⟨rfl, rfl⟩)
      | (go_at_call 169; (with_reducible refine (h4 _).mono ?_); rintro e x4 ⟨rfl, rfl⟩)
      | (go_at_call 184; (with_reducible refine (h5 _).mono ?_); rintro e x5 ⟨rfl, rfl⟩))
    go_ret
    exact ⟨by rw [HV.out]; rfl, hB1⟩
  | true =>
  rw [f4] at h4
  have HV := Lib.hid (valE_0 (show validB ⟨no, 4, a, b, fr, un, kn, gn⟩ = true by rw [hV, f0, f1, f2, f3, f4]; rfl))
  clear hV
  go_wp2_with (first
    | (go_at_call 168; (with_reducible refine (h1 _).mono ?_); rintro e x1 ⟨rfl, rfl⟩)
    | (go_at_call 168; (with_reducible refine (h2 _).mono ?_); rintro e x2 ⟨rfl, rfl⟩)
    | (go_at_call 169; (with_reducible refine (h3 _).mono ?_); rintro e x3 ⟨rfl, rfl⟩)
    | (go_at_call 169; (with_reducible refine (h4 _).mono ?_); rintro e x4 ⟨rfl, rfl⟩)
    | (go_at_call 184; (with_reducible refine (h5 _).mono ?_); rintro e x5 ⟨rfl, rfl⟩))
  go_ret
  exact ⟨by rw [HV.out]; rfl, hB1⟩
set_option maxRecDepth 100000 in
set_option maxHeartbeats 8000000 in
theorem echk_no (no kk a b fr un kn gn : Int) (w : World) (h1 : kk ≠ 1) (h2 : kk ≠ 2) (h3 : kk ≠ 3) (h4 : kk ≠ 4) :
    Calls Tryz.prog 149 #[.agg #[.int .i64 no, .int .i64 kk, .int .i64 a, .int .i64 b, .int .i64 fr, .int .i64 un, .int .i64 kn, .int .i64 gn]] w fun e w' => e = .returned (.int .i64 (valE ⟨no, kk, a, b, fr, un, kn, gn⟩)) ∧ Below w.heap.size w w' := by
  have hV : validB ⟨no, kk, a, b, fr, un, kn, gn⟩ = (false && (idB no && (idB a && (spanB fr un && spanB kn gn)))) := by unfold validB kindB; rw [if_neg h1, if_neg h2, if_neg (by intro h; rcases h with h | h; exact h3 h; exact h4 h)]
  have r0 := Row.new w 49 [.int .i64 no, .int .i64 kk, .int .i64 a, .int .i64 b, .int .i64 fr, .int .i64 un, .int .i64 kn, .int .i64 gn]
  have hB := below_alloc' w (.cells #[.int .i64 no, .int .i64 kk, .int .i64 a, .int .i64 b, .int .i64 fr, .int .i64 un, .int .i64 kn, .int .i64 gn] 49)
  have HK := Lib.hid kinds_any
  have g1 := rid_any no
  have g2 := rid_any a
  have g3 := rspan_any fr un
  have g4 := rspan_any kn gn
  go_enter Tryz.func149, Tryz.ntmps149
  obtain ⟨W, hW⟩ : ∃ W, w.alloc (.cells #[.int .i64 no, .int .i64 kk, .int .i64 a, .int .i64 b, .int .i64 fr, .int .i64 un, .int .i64 kn, .int .i64 gn] 49) = W := ⟨_, rfl⟩
  replace r0 : Row W w.heap.size 49 [.int .i64 no, .int .i64 kk, .int .i64 a, .int .i64 b, .int .i64 fr, .int .i64 un, .int .i64 kn, .int .i64 gn] := hW ▸ r0
  rw [hW] at hB
  go_upto_region 1 with fail
  try rw [hW]
  clear hW
  have hlo := r0.lt
  have c1 : W.cell? ⟨w.heap.size, 1, none⟩ = some (.int .i64 kk) := r0.cell 1
  refine wp_region_tree 8 (.take 1 (.take 2 (.one 0 (.one 3 (.take 4 (.take 5 (.take 6 (.take 7 .done)))))))) (fun W' => Below W.heap.size W W') (by kernel_rfl) (by kernel_rfl) (fun _ _ d _ _ h => by cases d <;> exact h) (Below.refl _ _).drew ?_
  iterate 2
    refine wpTree_take (v := ?_) rfl (by kernel_rfl) (fun w' hSw => ?_) ?_
    rotate_left 1
    · have c0 := (hSw.cell (p := ⟨w.heap.size, 1, none⟩) hlo).trans c1
      go_simp
      with_reducible rfl
    simp only [Act.put, List.getElem_toArray, List.getElem_cons_succ, List.getElem_cons_zero, List.setIfInBounds_toArray, List.set_cons_zero, List.set_cons_succ]
  refine wpTree_one rfl (fun K hK => ⟨by kernel_rfl, ?_⟩)
  go_simp
  go_at_call 167
  refine (HK.out _).mono ?_
  rintro e w1 ⟨bm, rfl, hb, hm⟩
  have hb1 : Below W.heap.size W w1 := (Below.refl _ _).drew.trans hb
  refine hK _ _ hb1 ?_
  clear hK K
  try simp only [Act.put, List.getElem_toArray, List.getElem_cons_succ, List.getElem_cons_zero, List.setIfInBounds_toArray, List.set_cons_zero, List.set_cons_succ]
  have hl := hm.look law_int Tryz.underlying217 (show (zeroValue 157).run Tryz.prog w1 = .ok .nilFunc w1 by kernel_rfl) kk true
  rw [kindF_no h1 h2 h3 h4] at hl
  replace hl : (Instr.lookup 217 (.map (some bm)) (.int .i64 kk) true).run Tryz.prog w1 = .ok (.tuple #[.nilFunc, .bool false]) w1 := hl
  refine wpTree_one rfl (fun K hK => ⟨by kernel_rfl, ?_⟩)
  go_simp
  refine hK _ _ hb1 ?_
  clear hK K
  try simp only [Act.put, List.getElem_toArray, List.getElem_cons_succ, List.getElem_cons_zero, List.setIfInBounds_toArray, List.set_cons_zero, List.set_cons_succ]
  iterate 4
    refine wpTree_take (v := ?_) rfl (by kernel_rfl) (fun w' hSw => ?_) ?_
    rotate_left 1
    · go_simp
      with_reducible rfl
    simp only [Act.put, List.getElem_toArray, List.getElem_cons_succ, List.getElem_cons_zero, List.setIfInBounds_toArray, List.set_cons_zero, List.set_cons_succ]
  refine wpTree_done ?_
  simp only [List.drop_succ_cons, List.drop_zero]
  have hB1 := hB.trans (hb1.mono hB.size)
  have r1 := r0.below hb1 hlo
  obtain ⟨e0, e1, e2, e3, e4, e5, e6, e7⟩ := st8e r1
  have hlo1 := r1.lt
  clear hl hm hb hb1 c1 r0 r1 hB hlo HK
  have HV := Lib.hid (valE_1 (show validB ⟨no, kk, a, b, fr, un, kn, gn⟩ = false by rw [hV]; rfl))
  clear hV
  go_wp2_with (first
    | (go_at_call 168; (with_reducible refine (g1 _).mono ?_); rintro e x1 ⟨rfl, rfl⟩)
    | (go_at_call 168; (with_reducible refine (g2 _).mono ?_); rintro e x2 ⟨rfl, rfl⟩)
    | (go_at_call 169; (with_reducible refine (g3 _).mono ?_); rintro e x3 ⟨rfl, rfl⟩)
    | (go_at_call 169; (with_reducible refine (g4 _).mono ?_); rintro e x4 ⟨rfl, rfl⟩))
  go_ret
  exact ⟨by rw [HV.out]; rfl, hB1⟩
theorem echk_any (x : En) (w : World) : Calls Tryz.prog 149 #[x.val] w fun e w' => e = .returned (.int .i64 (valE x)) ∧ Below w.heap.size w w' := by
  obtain ⟨no, k, a, b, fr, un, kn, gn⟩ := x
  by_cases h1 : k = 1
  · subst h1; exact echk_1 no a b fr un kn gn w
  by_cases h2 : k = 2
  · subst h2; exact echk_2 no a b fr un kn gn w
  by_cases h3 : k = 3
  · subst h3; exact echk_3 no a b fr un kn gn w
  by_cases h4 : k = 4
  · subst h4; exact echk_4 no a b fr un kn gn w
  exact echk_no no k a b fr un kn gn w h1 h2 h3 h4
end Go.Proofs.YthckledagggoiaaGreatDoor
