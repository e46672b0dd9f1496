import Derived.Test.YthboebhghaabnaaGreatDoorPzm
set_option linter.unusedSimpArgs false
set_option linter.unusedVariables false
namespace Go.Proofs.YthboebhghaabnaaGreatDoor
open Go.RowKit Fk Sha
/-! ShuffleCheckSpec. -/
theorem wfOg_ok8 {o : Og} (h : wfOg o) : o.ok := by
  obtain ⟨h1, ⟨h2, h3, h4⟩, h5⟩ := h
  exact ⟨⟨bounds_i64 h1, bounds_i64 h2, bounds_i64 h3, bounds_i64 h4⟩, h5⟩
set_option maxRecDepth 100000 in
set_option maxHeartbeats 8000000 in
theorem shuffleCheckSpec_walk (key : Int) (m : Mx) (x : MxA) (bits : List Int) (v0 : Value) (l : List Og) (v1 : Value) (w : World) (hT0 : Tab w) (hz0 : 1 < w.heap.size ∧ 0 < w.heap.size)
    (hm : MxS w w.heap.size x m) (hb : SlI w w.heap.size v0 bits) (h1 : SlG 36 Og.cells w w.heap.size v1 l)
    (_ : (Lit.int .i64 key).wf = true) (hmo : MxOK m) (_ : ∀ i, i < bits.length → wfI (bits.getD i default)) (hlo : ∀ i, i < l.length → wfOg (l.getD i default)) :
    Calls Tryz.prog 4 #[.int .i64 key, .agg (x.cells m).toArray, v0, v1] w fun e w' => e = .returned (.bool true) ∧ Below w.heap.size w w' := by
  have HT := Lib.hid (show TabS w from ⟨hT0, hz0⟩)
  have SN := Lib.hid (fun W (hb : Below w.heap.size w W) => sane14_any W (HT.out.below hb))
  have F1 := Lib.hid (fun W => fewmix_any m x W)
  have F2 := Lib.hid (fun A A1 c c1 W => fewopened_any bits.length l.length A A1 c c1 W)
  have hLO : ∀ i, i < l.length → (l.getD i default).ok := fun i hi => wfOg_ok8 (hlo i hi)
  have C1 := Lib.hid (fun W (hb : Below w.heap.size w W) h1 h2 h3 => check_any key x m bits l v0 v1 W (HT.out.below hb) h1 h2 h3 hmo hLO)
  have C2 := Lib.hid (fun W h1 h2 h3 => rcheck14_any key x m bits l v0 v1 W h1 h2 h3 hmo hLO)
  have hB := below_alloc' w (.cells (x.cells m).toArray 32)
  have r0 := Row.new w 32 (x.cells m)
  obtain ⟨W, hW⟩ : ∃ W, w.alloc (.cells (x.cells m).toArray 32) = W := ⟨_, rfl⟩
  replace r0 : Row W w.heap.size 32 (x.cells m) := hW ▸ r0
  replace hB : Below w.heap.size w W := hW ▸ hB
  have k0 : Kp fun W' => ((Below w.heap.size w W' ∧ Row W' w.heap.size 32 (x.cells m)) ∧ MxS W' W'.heap.size x m ∧ SlI W' W'.heap.size v0 bits ∧ SlG 36 Og.cells W' W'.heap.size v1 l) := by intro W W' hb ⟨⟨a, b⟩, c, d, e⟩; exact ⟨⟨Kp.from w hb a, Kp.row hb b⟩, Kp.mx hb c, Kp.sl hb d, Kp.sl hb e⟩
  have h0 : (fun W' => ((Below w.heap.size w W' ∧ Row W' w.heap.size 32 (x.cells m)) ∧ MxS W' W'.heap.size x m ∧ SlI W' W'.heap.size v0 bits ∧ SlG 36 Og.cells W' W'.heap.size v1 l)) W := ⟨⟨hB, r0⟩, (hm.below hB).mono hB.size, (hb.below hB).mono hB.size, (h1.below hB).mono hB.size⟩
  obtain ⟨CB, hCB⟩ : ∃ CB, checkB key m bits l = CB := ⟨_, rfl⟩
  rw [hCB] at C1 C2
  obtain ⟨_, A0, c0, rfl, _⟩ := hb
  obtain ⟨_, A1, c1, rfl, _⟩ := h1
  obtain ⟨ai, ci, am, cm, ao, co, al, cl, ar, cr⟩ := x
  have hx : (MxA.cells ⟨ai, ci, am, cm, ao, co, al, cl, ar, cr⟩ m) = [.slice ai m.i.length ci, .slice am m.m.length cm, .slice ao m.o.length co, .slice al m.l.length cl, .slice ar m.r.length cr] := rfl
  rw [hx] at F1 h0 k0 hW C1 C2 ⊢
  replace hW : w.alloc (.cells #[.slice ai m.i.length ci, .slice am m.m.length cm, .slice ao m.o.length co, .slice al m.l.length cl, .slice ar m.r.length cr] 32) = W := hW
  clear hT0 hz0 hm hmo hlo hLO hB r0 hx hCB
  cases f1 : fewMx m with
  | false =>
    rw [f1] at F1
    go_enter Tryz.func4, Tryz.ntmps4
    go_upto_region 1 with fail
    try rw [hW]
    clear hW
    go_wp2_with (first
      | (go_at_call 5; (with_reducible refine (SN.out _ h0.1.1).mono ?_); rintro e w1 ⟨rfl, hb⟩; replace h0 := k0 hb h0; clear hb; obtain ⟨e0, e1, e2, e3, e4⟩ := st5c h0.1.2)
      | (go_at_call 10; (with_reducible refine (F1.out _).mono ?_); rintro e w2 ⟨rfl, hb⟩; replace h0 := k0 hb h0; clear hb; obtain ⟨e0, e1, e2, e3, e4⟩ := st5c h0.1.2))
    go_ret
    exact ⟨rfl, h0.1.1⟩
  | true =>
  rw [f1] at F1
  cases f2 : fewOg bits.length l.length with
  | false =>
    rw [f2] at F2
    go_enter Tryz.func4, Tryz.ntmps4
    go_upto_region 1 with fail
    try rw [hW]
    clear hW
    go_wp2_with (first
      | (go_at_call 5; (with_reducible refine (SN.out _ h0.1.1).mono ?_); rintro e w1 ⟨rfl, hb⟩; replace h0 := k0 hb h0; clear hb; obtain ⟨e0, e1, e2, e3, e4⟩ := st5c h0.1.2)
      | (go_at_call 10; (with_reducible refine (F1.out _).mono ?_); rintro e w2 ⟨rfl, hb⟩; replace h0 := k0 hb h0; clear hb; obtain ⟨e0, e1, e2, e3, e4⟩ := st5c h0.1.2)
      | (go_at_call 11; (with_reducible refine (F2.out _ _ _ _ _).mono ?_); rintro e w3 ⟨rfl, hb⟩; replace h0 := k0 hb h0; clear hb; obtain ⟨e0, e1, e2, e3, e4⟩ := st5c h0.1.2))
    go_ret
    exact ⟨rfl, h0.1.1⟩
  | true =>
  rw [f2] at F2
  clear f1 f2
  go_enter Tryz.func4, Tryz.ntmps4
  go_upto_region 1 with fail
  try rw [hW]
  clear hW
  go_upto_region 5 with (first
    | (go_at_call 5; (with_reducible refine (SN.out _ h0.1.1).mono ?_); rintro e w1 ⟨rfl, hb⟩; replace h0 := k0 hb h0; clear hb; obtain ⟨e0, e1, e2, e3, e4⟩ := st5c h0.1.2)
    | (go_at_call 10; (with_reducible refine (F1.out _).mono ?_); rintro e w2 ⟨rfl, hb⟩; replace h0 := k0 hb h0; clear hb; obtain ⟨e0, e1, e2, e3, e4⟩ := st5c h0.1.2)
    | (go_at_call 11; (with_reducible refine (F2.out _ _ _ _ _).mono ?_); rintro e w3 ⟨rfl, hb⟩; replace h0 := k0 hb h0; clear hb; obtain ⟨e0, e1, e2, e3, e4⟩ := st5c h0.1.2))
  have hmi : (Tryz.prog.info? 32).map (·.size) = some 5 := by kernel_rfl
  clear e0 e1 e2 e3 e4 SN F1 F2
  refine wp_region_det 11 (fun W' => ((Below w.heap.size w W' ∧ Row W' w.heap.size 32 [.slice ai m.i.length ci, .slice am m.m.length cm, .slice ao m.o.length co, .slice al m.l.length cl, .slice ar m.r.length cr]) ∧ MxS W' W'.heap.size ⟨ai, ci, am, cm, ao, co, al, cl, ar, cr⟩ m ∧ SlI W' W'.heap.size (.slice A0 bits.length c0) bits ∧ SlG 36 Og.cells W' W'.heap.size (.slice A1 l.length c1) l)) (by kernel_rfl) (by kernel_rfl) (k0 (Below.refl _ _).drew h0) ?_
  refine wpDet_take (v := ?_) rfl (by kernel_rfl) (fun w' hSw => ?_) ?_
  rotate_left 1
  · skip
    go_simp
    with_reducible rfl
  simp only [Act.put, List.getElem_toArray, List.getElem_cons_succ, List.getElem_cons_zero, List.setIfInBounds_toArray, List.set_cons_zero, List.set_cons_succ]
  refine wpDet_take (v := .agg #[.slice ai m.i.length ci, .slice am m.m.length cm, .slice ao m.o.length co, .slice al m.l.length cl, .slice ar m.r.length cr]) rfl (by kernel_rfl) (fun w' hSw => exec_load (ty := 32) (x := .tmp 5) (p := .pointer (some ⟨w.heap.size, 0, none⟩)) (by kernel_rfl) (by kernel_rfl) (run_loadAt_mid w' (w.heap.size) (0) 32 _ _ (range_row hSw.1.2) Tryz.underlying32 rfl hmi)) ?_
  simp only [Act.put, List.getElem_toArray, List.getElem_cons_succ, List.getElem_cons_zero, List.setIfInBounds_toArray, List.set_cons_zero, List.set_cons_succ]
  iterate 2
    refine wpDet_take (v := ?_) rfl (by kernel_rfl) (fun w' hSw => ?_) ?_
    rotate_left 1
    · skip
      go_simp
      with_reducible rfl
    simp only [Act.put, List.getElem_toArray, List.getElem_cons_succ, List.getElem_cons_zero, List.setIfInBounds_toArray, List.set_cons_zero, List.set_cons_succ]
  refine wpDet_call (v := .bool CB) rfl (by kernel_rfl) (fun w' hSw K hK => ?_) ?_
  · go_simp
    go_at_call 12
    refine (C1.out _ hSw.1.1 hSw.2.1 hSw.2.2.1 hSw.2.2.2).mono ?_
    rintro e w1 ⟨rfl, hb⟩
    exact hK _ (k0 hb hSw)
  simp only [Act.put, List.getElem_toArray, List.getElem_cons_succ, List.getElem_cons_zero, List.setIfInBounds_toArray, List.set_cons_zero, List.set_cons_succ]
  refine wpDet_take (v := ?_) rfl (by kernel_rfl) (fun w' hSw => ?_) ?_
  rotate_left 1
  · skip
    go_simp
    with_reducible rfl
  simp only [Act.put, List.getElem_toArray, List.getElem_cons_succ, List.getElem_cons_zero, List.setIfInBounds_toArray, List.set_cons_zero, List.set_cons_succ]
  refine wpDet_take (v := .agg #[.slice ai m.i.length ci, .slice am m.m.length cm, .slice ao m.o.length co, .slice al m.l.length cl, .slice ar m.r.length cr]) rfl (by kernel_rfl) (fun w' hSw => exec_load (ty := 32) (x := .tmp 5) (p := .pointer (some ⟨w.heap.size, 0, none⟩)) (by kernel_rfl) (by kernel_rfl) (run_loadAt_mid w' (w.heap.size) (0) 32 _ _ (range_row hSw.1.2) Tryz.underlying32 rfl hmi)) ?_
  simp only [Act.put, List.getElem_toArray, List.getElem_cons_succ, List.getElem_cons_zero, List.setIfInBounds_toArray, List.set_cons_zero, List.set_cons_succ]
  iterate 2
    refine wpDet_take (v := ?_) rfl (by kernel_rfl) (fun w' hSw => ?_) ?_
    rotate_left 1
    · skip
      go_simp
      with_reducible rfl
    simp only [Act.put, List.getElem_toArray, List.getElem_cons_succ, List.getElem_cons_zero, List.setIfInBounds_toArray, List.set_cons_zero, List.set_cons_succ]
  refine wpDet_call (v := .bool CB) rfl (by kernel_rfl) (fun w' hSw K hK => ?_) ?_
  · go_simp
    go_at_call 13
    refine (C2.out _ hSw.2.1 hSw.2.2.1 hSw.2.2.2).mono ?_
    rintro e w1 ⟨rfl, hb⟩
    exact hK _ (k0 hb hSw)
  simp only [Act.put, List.getElem_toArray, List.getElem_cons_succ, List.getElem_cons_zero, List.setIfInBounds_toArray, List.set_cons_zero, List.set_cons_succ]
  refine wpDet_take (v := .bool true) rfl (by kernel_rfl) (fun w' hSw => ?_) ?_
  · have hq : (CB == CB) = true := by simp
    go_simp
  simp only [Act.put, List.getElem_toArray, List.getElem_cons_succ, List.getElem_cons_zero, List.setIfInBounds_toArray, List.set_cons_zero, List.set_cons_succ]
  refine wpDet_done ?_
  intro w4 hS4
  simp only [List.drop_succ_cons, List.drop_zero]
  go_wp2_with fail
  go_ret
  exact ⟨rfl, hS4.1.1⟩
end Go.Proofs.YthboebhghaabnaaGreatDoor
