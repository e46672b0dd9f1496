import Derived.Test.YthckledagggoiaaGreatDoorZFs0
import Derived.Great.BuildSlice
import Derived.Laws.Tables
import Derived.BigFrame
import Derived.Deep.MidRow
set_option linter.unusedSimpArgs false
set_option linter.unusedVariables false
namespace Go.Proofs.YthckledagggoiaaGreatDoor
open Go.RowKit Go.Shelf Fk Sha
/-! onetime.Check of an address that was made. -/
theorem exec_loadF {P : Program} {a : Act} {o : Oper} {w : World} {ty : TypeId} {x : Operand} {p v : Value} (ho : o.op = .load ty x) (hx : a.eval x = p) (hr : (Instr.loadAt ty p).run P w = .ok v w) : (execOp a.eval o).run P w = .ok (.value v) w := by
  unfold execOp
  simp only [ho, hx, Sem.run_bind, hr, Result.andThen_ok]
  rfl
theorem range_rowF {w : World} {g : Nat} {t : TypeId} {vs : List Value} (h : Row w g t vs) : w.rangeAt g 0 vs := fun j v hj => by
  rw [Nat.zero_add, h.cell]; exact hj
theorem range_belowF {w w' : World} {b off n : Nat} {vs : List Value} (h : w.rangeAt b off vs) (hb : Below n w w') (hl : b < n) : w'.rangeAt b off vs := fun k v hk => (hb.cell (p := ⟨b, off + k, none⟩) hl).trans (h k v hk)
theorem range_ret {w : World} {g : Nat} {t : TypeId} {line key a b : Int} {ds : List Value} (h : Row w g t (retC line key a b ds)) : w.rangeAt g 4 ds := fun j v hj => by
  rw [h.cell]
  show ([.int .i64 line, .int .i64 key, .int .i64 a, .int .i64 b] ++ ds)[4 + j]? = some v
  rw [List.getElem?_append_right (by simp)]
  simpa using hj
theorem wpList_load_at {P : Program} {ops : Array Oper} {rest : List Oper} {o : Oper} {a : Act} {w : World} {Q : Exit → Act → World → Prop} (hw : Region.wanted o (yielded ops a.tmps) = true) (ty : TypeId) (x : Operand) (ho : o.op = .load ty x) (b off : Nat) (cs : List Value) (hx : a.eval x = .pointer (some ⟨b, off, none⟩))
    (hc : w.rangeAt b off cs) {d : TypeDesc} (hu : P.underlying ty = some d) (hd : d.isRow = true) (hi : (P.info? ty).map (·.size) = some cs.length) (h : wpList P ops Q rest (a.put o.dst (.agg cs.toArray)) w) : wpList P ops Q (o :: rest) a w :=
  BigFrame.wpList_want hw fun _ hK => wp_load_mid ty x ho b off hx cs d hc hu hd hi (hK _ _ h)
theorem wpList_build_at {P : Program} {ops : Array Oper} {rest : List Oper} {o : Oper} {a : Act} {w : World} {Q : Exit → Act → World → Prop} (hw : Region.wanted o (yielded ops a.tmps) = true) (t : TypeId) (parts : Array (Nat × Operand)) (ho : o.op = .build t parts)
    (cells : Array Value) (hf : P.built t (parts.map fun (i, x) => (i, a.eval x)).toList = some cells) (h : wpList P ops Q rest (a.put o.dst (.agg cells)) w) : wpList P ops Q (o :: rest) a w :=
  BigFrame.wpList_want hw fun _ hK => wp_build t parts ho (by rw [hf]; rfl) (hK _ _ (by rw [hf]; exact h))
theorem wpList_eql_at {P : Program} {ops : Array Oper} {rest : List Oper} {o : Oper} {a : Act} {w : World} {Q : Exit → Act → World → Prop} (hw : Region.wanted o (yielded ops a.tmps) = true) (t ty : TypeId) (x y : Operand) (ho : o.op = .binOp .eql t x y ty) (xs ys : Array Value) (hx : a.eval x = .agg xs) (hy : a.eval y = .agg ys)
    (hm : P.eqGuardType P.depth t = false) (b : Bool) (hr : ∀ w, (Op.equalIn 10000 t (.agg xs) (.agg ys)).run P w = .ok b w) (h : wpList P ops Q rest (a.put o.dst (.bool b)) w) : wpList P ops Q (o :: rest) a w :=
  BigFrame.wpList_want hw fun _ hK => by
    unfold Oper.wp execOp
    simp only [ho, hx, hy, Sem.run_bind, run_eqGuard_agg w .eql t x y xs ys hm, run_eql_struct, hr, Result.andThen_ok, Sem.run_pure]
    exact hK _ _ h
theorem wpList_neq_at {P : Program} {ops : Array Oper} {rest : List Oper} {o : Oper} {a : Act} {w : World} {Q : Exit → Act → World → Prop} (hw : Region.wanted o (yielded ops a.tmps) = true) (t ty : TypeId) (x y : Operand) (ho : o.op = .binOp .neq t x y ty) (xs ys : Array Value) (hx : a.eval x = .agg xs) (hy : a.eval y = .agg ys)
    (hm : P.eqGuardType P.depth t = false) (b : Bool) (hr : ∀ w, (Op.equalIn 10000 t (.agg xs) (.agg ys)).run P w = .ok b w) (h : wpList P ops Q rest (a.put o.dst (.bool (!b))) w) : wpList P ops Q (o :: rest) a w :=
  BigFrame.wpList_want hw fun _ hK => by
    unfold Oper.wp execOp
    simp only [ho, hx, hy, Sem.run_bind, run_eqGuard_agg w .neq t x y xs ys hm, run_neq_struct, hr, Result.andThen_ok, Sem.run_pure]
    exact hK _ _ h
theorem run_allocF (a : Act) (o : Oper) (w : World) (ho : o.op = .alloc 38) : (execOp a.eval o).run Tryz.prog w = .ok (.value (.pointer (some ⟨w.heap.size, 0, none⟩))) (w.alloc (.cells zeroF.cells.toArray 38)) := by
  unfold execOp
  simp only [ho]
  kernel_rfl
/-- a new variable of type api.Forward, and what is put into it -/
theorem wpList_newF {ops : Array Oper} {rest : List Oper} {o1 o2 : Oper} {a : Act} {w : World} {Q : Exit → Act → World → Prop} (hg1 : o1.guard = none) (ho1 : o1.op = .alloc 38) (d : Tmp) (hd1 : o1.dst = some d) (hg2 : o2.guard = none) (y : Operand) (ho2 : o2.op = .store 38 (.tmp d) y) (hd2 : o2.dst = none)
    (x : Fw) (hx : x.ds.length = 32) (hp : (a.put (some d) (.pointer (some ⟨w.heap.size, 0, none⟩))).eval (.tmp d) = .pointer (some ⟨w.heap.size, 0, none⟩)) (hy : (a.put (some d) (.pointer (some ⟨w.heap.size, 0, none⟩))).eval y = .agg x.cells.toArray)
    (h : ∀ W', Row W' w.heap.size 38 x.cells → Below w.heap.size w W' → wpList Tryz.prog ops Q rest (a.put (some d) (.pointer (some ⟨w.heap.size, 0, none⟩))) W') : wpList Tryz.prog ops Q (o1 :: o2 :: rest) a w := by
  refine wpList_plain hg1 fun K hK => ?_
  unfold Oper.wp
  rw [run_allocF a o1 w ho1, Oper.upon_value, hd1]
  refine hK _ _ ?_
  have r0 := Row.new w 38 zeroF.cells
  have hl := Fw.len hx
  have hlz : zeroF.cells.length = 39 := rfl
  have hinf : (Tryz.prog.info? 38).map (·.size) = some 39 := by kernel_rfl
  refine wpList_store_row hg2 38 (.tmp d) y ho2 w.heap.size x.cells.toArray hp hy 38 zeroF.cells.toArray r0 (by rw [hinf]; simp [hl]) (by simp [hl, hlz]) (all_oneCell_toArray (Fw.one x)) ?_
  rw [hd2]
  exact h _ (Row.part r0 x.cells) (below_setRow (below_alloc' w _) (Nat.le_refl _) _)
set_option maxRecDepth 100000 in
set_option maxHeartbeats 4000000 in
theorem ocheck_any (line key a b : Int) (hln : 0 ≤ line ∧ line < 64) (hk : vld key = true) (ha : vld a = true) (hb : vld b = true) (w : World) (hT : TabOK w) :
    Calls Tryz.prog 22 #[.agg (retC line key a b ((tagN line key a b).map bv)).toArray] w fun e w' => e = .returned (.int .i64 0) ∧ Below w.heap.size w w' := by
  have bk := vld_bd hk
  have ba := vld_bd ha
  have bb := vld_bd hb
  have hs := small4 (a := line) (b := key) (c := a) (d := b) (by omega) (by omega) (by omega) (by omega)
  have c1 := fun W => valid_any key W
  have c2 := fun W => valid_any a W
  have c3 := fun W => valid_any b W
  rw [hk] at c1
  rw [ha] at c2
  rw [hb] at c3
  have hl := tagN_len line key a b
  have c4 := fun (W : World) (h : Below w.heap.size w W) => tag_any line key a b hs ((tagN line key a b).map bv) (by rw [List.length_map]; exact hl) W (hT.below h)
  have f1 : decide (line < 0) = false := decide_eq_false (by omega)
  have f2 : decide (64 ≤ line) = false := decide_eq_false (by omega)
  obtain ⟨D, hD⟩ : ∃ D, tagN line key a b = D := ⟨_, rfl⟩
  rw [hD] at hl c4 ⊢
  have hq := fun W => eqDig (ds := D) (es := D) hl hl W
  rw [decide_eq_true (rfl : D = D)] at hq
  have hdl : (D.map bv).length = 32 := by rw [List.length_map]; exact hl
  have hrl := retC_len (line := line) (key := key) (a := a) (b := b) hdl
  have r0 := Row.new w 36 (retC line key a b (D.map bv))
  have hB := below_alloc' w (.cells (retC line key a b (D.map bv)).toArray 36)
  have g0 : (retC line key a b (D.map bv))[0]? = some (.int .i64 line) := rfl
  have g1 : (retC line key a b (D.map bv))[1]? = some (.int .i64 key) := rfl
  have g2 : (retC line key a b (D.map bv))[2]? = some (.int .i64 a) := rfl
  have g3 : (retC line key a b (D.map bv))[3]? = some (.int .i64 b) := rfl
  have h4 := range_ret r0
  have h0 := range_rowF r0
  obtain ⟨RC, hRC⟩ : ∃ RC, retC line key a b (D.map bv) = RC := ⟨_, rfl⟩
  rw [hRC] at r0 hB g0 g1 g2 g3 h4 h0 c4 hrl ⊢
  have hinfR : (Tryz.prog.info? 36).map (·.size) = some RC.length := by rw [hrl]; kernel_rfl
  have hinfD : (Tryz.prog.info? 34).map (·.size) = some (D.map bv).length := by rw [hdl]; kernel_rfl
  obtain ⟨W, hW⟩ : ∃ W, w.alloc (.cells RC.toArray 36) = W := ⟨_, rfl⟩
  rw [hW] at r0 hB h4 h0
  have k0 := (r0.cell 0).trans g0
  have k1 := (r0.cell 1).trans g1
  have k2 := (r0.cell 2).trans g2
  have k3 := (r0.cell 3).trans g3
  have hlt := r0.lt
  have C1 := Lib.hid c1
  have C2 := Lib.hid c2
  have C3 := Lib.hid c3
  have C4 := Lib.hid c4
  have HQ := Lib.hid hq
  clear c1 c2 c3 c4 hq hRC hD hs bk ba bb hk ha hb hln hl g0 g1 g2 g3 hT r0 hrl hdl
  go_enter Tryz.func22, Tryz.ntmps22
  go_upto_region 1 with fail
  clear hW
  refine wp_region_det 34 (fun w0 => Below W.heap.size W w0) (by kernel_rfl) (by kernel_rfl) (Below.refl _ _).drew ?_
  refine wpDet_take (v := ?_) rfl (by kernel_rfl) (fun w0 hSw => ?_) ?_
  rotate_left 1
  · have y0 := (hSw.cell (p := ⟨w.heap.size, 0, none⟩) hlt).trans k0; have y1 := (hSw.cell (p := ⟨w.heap.size, 1, none⟩) hlt).trans k1; have y2 := (hSw.cell (p := ⟨w.heap.size, 2, none⟩) hlt).trans k2; have y3 := (hSw.cell (p := ⟨w.heap.size, 3, none⟩) hlt).trans k3
    go_simp
    with_reducible rfl
  simp only [Act.put, List.getElem_toArray, List.getElem_cons_succ, List.getElem_cons_zero, List.setIfInBounds_toArray, List.set_cons_zero, List.set_cons_succ]
  refine wpDet_take (v := ?_) rfl (by kernel_rfl) (fun w0 hSw => ?_) ?_
  rotate_left 1
  · have y0 := (hSw.cell (p := ⟨w.heap.size, 0, none⟩) hlt).trans k0; have y1 := (hSw.cell (p := ⟨w.heap.size, 1, none⟩) hlt).trans k1; have y2 := (hSw.cell (p := ⟨w.heap.size, 2, none⟩) hlt).trans k2; have y3 := (hSw.cell (p := ⟨w.heap.size, 3, none⟩) hlt).trans k3
    go_simp
    with_reducible rfl
  simp only [Act.put, List.getElem_toArray, List.getElem_cons_succ, List.getElem_cons_zero, List.setIfInBounds_toArray, List.set_cons_zero, List.set_cons_succ]
  refine wpDet_take (v := .bool false) rfl (by kernel_rfl) (fun w0 hSw => ?_) ?_
  · have y0 := (hSw.cell (p := ⟨w.heap.size, 0, none⟩) hlt).trans k0; have y1 := (hSw.cell (p := ⟨w.heap.size, 1, none⟩) hlt).trans k1; have y2 := (hSw.cell (p := ⟨w.heap.size, 2, none⟩) hlt).trans k2; have y3 := (hSw.cell (p := ⟨w.heap.size, 3, none⟩) hlt).trans k3
    go_simp
  simp only [Act.put, List.getElem_toArray, List.getElem_cons_succ, List.getElem_cons_zero, List.setIfInBounds_toArray, List.set_cons_zero, List.set_cons_succ]
  refine wpDet_take (v := ?_) rfl (by kernel_rfl) (fun w0 hSw => ?_) ?_
  rotate_left 1
  · have y0 := (hSw.cell (p := ⟨w.heap.size, 0, none⟩) hlt).trans k0; have y1 := (hSw.cell (p := ⟨w.heap.size, 1, none⟩) hlt).trans k1; have y2 := (hSw.cell (p := ⟨w.heap.size, 2, none⟩) hlt).trans k2; have y3 := (hSw.cell (p := ⟨w.heap.size, 3, none⟩) hlt).trans k3
    go_simp
    with_reducible rfl
  simp only [Act.put, List.getElem_toArray, List.getElem_cons_succ, List.getElem_cons_zero, List.setIfInBounds_toArray, List.set_cons_zero, List.set_cons_succ]
  refine wpDet_take (v := ?_) rfl (by kernel_rfl) (fun w0 hSw => ?_) ?_
  rotate_left 1
  · have y0 := (hSw.cell (p := ⟨w.heap.size, 0, none⟩) hlt).trans k0; have y1 := (hSw.cell (p := ⟨w.heap.size, 1, none⟩) hlt).trans k1; have y2 := (hSw.cell (p := ⟨w.heap.size, 2, none⟩) hlt).trans k2; have y3 := (hSw.cell (p := ⟨w.heap.size, 3, none⟩) hlt).trans k3
    go_simp
    with_reducible rfl
  simp only [Act.put, List.getElem_toArray, List.getElem_cons_succ, List.getElem_cons_zero, List.setIfInBounds_toArray, List.set_cons_zero, List.set_cons_succ]
  refine wpDet_take (v := ?_) rfl (by kernel_rfl) (fun w0 hSw => ?_) ?_
  rotate_left 1
  · have y0 := (hSw.cell (p := ⟨w.heap.size, 0, none⟩) hlt).trans k0; have y1 := (hSw.cell (p := ⟨w.heap.size, 1, none⟩) hlt).trans k1; have y2 := (hSw.cell (p := ⟨w.heap.size, 2, none⟩) hlt).trans k2; have y3 := (hSw.cell (p := ⟨w.heap.size, 3, none⟩) hlt).trans k3
    go_simp
    with_reducible rfl
  simp only [Act.put, List.getElem_toArray, List.getElem_cons_succ, List.getElem_cons_zero, List.setIfInBounds_toArray, List.set_cons_zero, List.set_cons_succ]
  refine wpDet_take (v := .bool false) rfl (by kernel_rfl) (fun w0 hSw => ?_) ?_
  · have y0 := (hSw.cell (p := ⟨w.heap.size, 0, none⟩) hlt).trans k0; have y1 := (hSw.cell (p := ⟨w.heap.size, 1, none⟩) hlt).trans k1; have y2 := (hSw.cell (p := ⟨w.heap.size, 2, none⟩) hlt).trans k2; have y3 := (hSw.cell (p := ⟨w.heap.size, 3, none⟩) hlt).trans k3
    go_simp
  simp only [Act.put, List.getElem_toArray, List.getElem_cons_succ, List.getElem_cons_zero, List.setIfInBounds_toArray, List.set_cons_zero, List.set_cons_succ]
  refine wpDet_take (v := ?_) rfl (by kernel_rfl) (fun w0 hSw => ?_) ?_
  rotate_left 1
  · have y0 := (hSw.cell (p := ⟨w.heap.size, 0, none⟩) hlt).trans k0; have y1 := (hSw.cell (p := ⟨w.heap.size, 1, none⟩) hlt).trans k1; have y2 := (hSw.cell (p := ⟨w.heap.size, 2, none⟩) hlt).trans k2; have y3 := (hSw.cell (p := ⟨w.heap.size, 3, none⟩) hlt).trans k3
    go_simp
    with_reducible rfl
  simp only [Act.put, List.getElem_toArray, List.getElem_cons_succ, List.getElem_cons_zero, List.setIfInBounds_toArray, List.set_cons_zero, List.set_cons_succ]
  refine wpDet_take (v := ?_) rfl (by kernel_rfl) (fun w0 hSw => ?_) ?_
  rotate_left 1
  · have y0 := (hSw.cell (p := ⟨w.heap.size, 0, none⟩) hlt).trans k0; have y1 := (hSw.cell (p := ⟨w.heap.size, 1, none⟩) hlt).trans k1; have y2 := (hSw.cell (p := ⟨w.heap.size, 2, none⟩) hlt).trans k2; have y3 := (hSw.cell (p := ⟨w.heap.size, 3, none⟩) hlt).trans k3
    go_simp
    with_reducible rfl
  simp only [Act.put, List.getElem_toArray, List.getElem_cons_succ, List.getElem_cons_zero, List.setIfInBounds_toArray, List.set_cons_zero, List.set_cons_succ]
  refine wpDet_take (v := ?_) rfl (by kernel_rfl) (fun w0 hSw => ?_) ?_
  rotate_left 1
  · have y0 := (hSw.cell (p := ⟨w.heap.size, 0, none⟩) hlt).trans k0; have y1 := (hSw.cell (p := ⟨w.heap.size, 1, none⟩) hlt).trans k1; have y2 := (hSw.cell (p := ⟨w.heap.size, 2, none⟩) hlt).trans k2; have y3 := (hSw.cell (p := ⟨w.heap.size, 3, none⟩) hlt).trans k3
    go_simp
    with_reducible rfl
  simp only [Act.put, List.getElem_toArray, List.getElem_cons_succ, List.getElem_cons_zero, List.setIfInBounds_toArray, List.set_cons_zero, List.set_cons_succ]
  refine wpDet_take (v := ?_) rfl (by kernel_rfl) (fun w0 hSw => ?_) ?_
  rotate_left 1
  · have y0 := (hSw.cell (p := ⟨w.heap.size, 0, none⟩) hlt).trans k0; have y1 := (hSw.cell (p := ⟨w.heap.size, 1, none⟩) hlt).trans k1; have y2 := (hSw.cell (p := ⟨w.heap.size, 2, none⟩) hlt).trans k2; have y3 := (hSw.cell (p := ⟨w.heap.size, 3, none⟩) hlt).trans k3
    go_simp
    with_reducible rfl
  simp only [Act.put, List.getElem_toArray, List.getElem_cons_succ, List.getElem_cons_zero, List.setIfInBounds_toArray, List.set_cons_zero, List.set_cons_succ]
  refine wpDet_call (v := .bool true) rfl (by kernel_rfl) (fun w0 hSw K hK => ?_) ?_
  · go_simp
    go_at_call 59
    refine (C1.out _).mono ?_
    rintro e w1 ⟨rfl, rfl⟩
    exact hK _ hSw
  simp only [Act.put, List.getElem_toArray, List.getElem_cons_succ, List.getElem_cons_zero, List.setIfInBounds_toArray, List.set_cons_zero, List.set_cons_succ]
  refine wpDet_take (v := ?_) rfl (by kernel_rfl) (fun w0 hSw => ?_) ?_
  rotate_left 1
  · have y0 := (hSw.cell (p := ⟨w.heap.size, 0, none⟩) hlt).trans k0; have y1 := (hSw.cell (p := ⟨w.heap.size, 1, none⟩) hlt).trans k1; have y2 := (hSw.cell (p := ⟨w.heap.size, 2, none⟩) hlt).trans k2; have y3 := (hSw.cell (p := ⟨w.heap.size, 3, none⟩) hlt).trans k3
    go_simp
    with_reducible rfl
  simp only [Act.put, List.getElem_toArray, List.getElem_cons_succ, List.getElem_cons_zero, List.setIfInBounds_toArray, List.set_cons_zero, List.set_cons_succ]
  refine wpDet_take (v := ?_) rfl (by kernel_rfl) (fun w0 hSw => ?_) ?_
  rotate_left 1
  · have y0 := (hSw.cell (p := ⟨w.heap.size, 0, none⟩) hlt).trans k0; have y1 := (hSw.cell (p := ⟨w.heap.size, 1, none⟩) hlt).trans k1; have y2 := (hSw.cell (p := ⟨w.heap.size, 2, none⟩) hlt).trans k2; have y3 := (hSw.cell (p := ⟨w.heap.size, 3, none⟩) hlt).trans k3
    go_simp
    with_reducible rfl
  simp only [Act.put, List.getElem_toArray, List.getElem_cons_succ, List.getElem_cons_zero, List.setIfInBounds_toArray, List.set_cons_zero, List.set_cons_succ]
  refine wpDet_take (v := ?_) rfl (by kernel_rfl) (fun w0 hSw => ?_) ?_
  rotate_left 1
  · have y0 := (hSw.cell (p := ⟨w.heap.size, 0, none⟩) hlt).trans k0; have y1 := (hSw.cell (p := ⟨w.heap.size, 1, none⟩) hlt).trans k1; have y2 := (hSw.cell (p := ⟨w.heap.size, 2, none⟩) hlt).trans k2; have y3 := (hSw.cell (p := ⟨w.heap.size, 3, none⟩) hlt).trans k3
    go_simp
    with_reducible rfl
  simp only [Act.put, List.getElem_toArray, List.getElem_cons_succ, List.getElem_cons_zero, List.setIfInBounds_toArray, List.set_cons_zero, List.set_cons_succ]
  refine wpDet_take (v := ?_) rfl (by kernel_rfl) (fun w0 hSw => ?_) ?_
  rotate_left 1
  · have y0 := (hSw.cell (p := ⟨w.heap.size, 0, none⟩) hlt).trans k0; have y1 := (hSw.cell (p := ⟨w.heap.size, 1, none⟩) hlt).trans k1; have y2 := (hSw.cell (p := ⟨w.heap.size, 2, none⟩) hlt).trans k2; have y3 := (hSw.cell (p := ⟨w.heap.size, 3, none⟩) hlt).trans k3
    go_simp
    with_reducible rfl
  simp only [Act.put, List.getElem_toArray, List.getElem_cons_succ, List.getElem_cons_zero, List.setIfInBounds_toArray, List.set_cons_zero, List.set_cons_succ]
  refine wpDet_take (v := ?_) rfl (by kernel_rfl) (fun w0 hSw => ?_) ?_
  rotate_left 1
  · have y0 := (hSw.cell (p := ⟨w.heap.size, 0, none⟩) hlt).trans k0; have y1 := (hSw.cell (p := ⟨w.heap.size, 1, none⟩) hlt).trans k1; have y2 := (hSw.cell (p := ⟨w.heap.size, 2, none⟩) hlt).trans k2; have y3 := (hSw.cell (p := ⟨w.heap.size, 3, none⟩) hlt).trans k3
    go_simp
    with_reducible rfl
  simp only [Act.put, List.getElem_toArray, List.getElem_cons_succ, List.getElem_cons_zero, List.setIfInBounds_toArray, List.set_cons_zero, List.set_cons_succ]
  refine wpDet_take (v := ?_) rfl (by kernel_rfl) (fun w0 hSw => ?_) ?_
  rotate_left 1
  · have y0 := (hSw.cell (p := ⟨w.heap.size, 0, none⟩) hlt).trans k0; have y1 := (hSw.cell (p := ⟨w.heap.size, 1, none⟩) hlt).trans k1; have y2 := (hSw.cell (p := ⟨w.heap.size, 2, none⟩) hlt).trans k2; have y3 := (hSw.cell (p := ⟨w.heap.size, 3, none⟩) hlt).trans k3
    go_simp
    with_reducible rfl
  simp only [Act.put, List.getElem_toArray, List.getElem_cons_succ, List.getElem_cons_zero, List.setIfInBounds_toArray, List.set_cons_zero, List.set_cons_succ]
  refine wpDet_call (v := .bool true) rfl (by kernel_rfl) (fun w0 hSw K hK => ?_) ?_
  · go_simp
    go_at_call 59
    refine (C2.out _).mono ?_
    rintro e w1 ⟨rfl, rfl⟩
    exact hK _ hSw
  simp only [Act.put, List.getElem_toArray, List.getElem_cons_succ, List.getElem_cons_zero, List.setIfInBounds_toArray, List.set_cons_zero, List.set_cons_succ]
  refine wpDet_take (v := ?_) rfl (by kernel_rfl) (fun w0 hSw => ?_) ?_
  rotate_left 1
  · have y0 := (hSw.cell (p := ⟨w.heap.size, 0, none⟩) hlt).trans k0; have y1 := (hSw.cell (p := ⟨w.heap.size, 1, none⟩) hlt).trans k1; have y2 := (hSw.cell (p := ⟨w.heap.size, 2, none⟩) hlt).trans k2; have y3 := (hSw.cell (p := ⟨w.heap.size, 3, none⟩) hlt).trans k3
    go_simp
    with_reducible rfl
  simp only [Act.put, List.getElem_toArray, List.getElem_cons_succ, List.getElem_cons_zero, List.setIfInBounds_toArray, List.set_cons_zero, List.set_cons_succ]
  refine wpDet_take (v := ?_) rfl (by kernel_rfl) (fun w0 hSw => ?_) ?_
  rotate_left 1
  · have y0 := (hSw.cell (p := ⟨w.heap.size, 0, none⟩) hlt).trans k0; have y1 := (hSw.cell (p := ⟨w.heap.size, 1, none⟩) hlt).trans k1; have y2 := (hSw.cell (p := ⟨w.heap.size, 2, none⟩) hlt).trans k2; have y3 := (hSw.cell (p := ⟨w.heap.size, 3, none⟩) hlt).trans k3
    go_simp
    with_reducible rfl
  simp only [Act.put, List.getElem_toArray, List.getElem_cons_succ, List.getElem_cons_zero, List.setIfInBounds_toArray, List.set_cons_zero, List.set_cons_succ]
  refine wpDet_take (v := ?_) rfl (by kernel_rfl) (fun w0 hSw => ?_) ?_
  rotate_left 1
  · have y0 := (hSw.cell (p := ⟨w.heap.size, 0, none⟩) hlt).trans k0; have y1 := (hSw.cell (p := ⟨w.heap.size, 1, none⟩) hlt).trans k1; have y2 := (hSw.cell (p := ⟨w.heap.size, 2, none⟩) hlt).trans k2; have y3 := (hSw.cell (p := ⟨w.heap.size, 3, none⟩) hlt).trans k3
    go_simp
    with_reducible rfl
  simp only [Act.put, List.getElem_toArray, List.getElem_cons_succ, List.getElem_cons_zero, List.setIfInBounds_toArray, List.set_cons_zero, List.set_cons_succ]
  refine wpDet_take (v := ?_) rfl (by kernel_rfl) (fun w0 hSw => ?_) ?_
  rotate_left 1
  · have y0 := (hSw.cell (p := ⟨w.heap.size, 0, none⟩) hlt).trans k0; have y1 := (hSw.cell (p := ⟨w.heap.size, 1, none⟩) hlt).trans k1; have y2 := (hSw.cell (p := ⟨w.heap.size, 2, none⟩) hlt).trans k2; have y3 := (hSw.cell (p := ⟨w.heap.size, 3, none⟩) hlt).trans k3
    go_simp
    with_reducible rfl
  simp only [Act.put, List.getElem_toArray, List.getElem_cons_succ, List.getElem_cons_zero, List.setIfInBounds_toArray, List.set_cons_zero, List.set_cons_succ]
  refine wpDet_take (v := ?_) rfl (by kernel_rfl) (fun w0 hSw => ?_) ?_
  rotate_left 1
  · have y0 := (hSw.cell (p := ⟨w.heap.size, 0, none⟩) hlt).trans k0; have y1 := (hSw.cell (p := ⟨w.heap.size, 1, none⟩) hlt).trans k1; have y2 := (hSw.cell (p := ⟨w.heap.size, 2, none⟩) hlt).trans k2; have y3 := (hSw.cell (p := ⟨w.heap.size, 3, none⟩) hlt).trans k3
    go_simp
    with_reducible rfl
  simp only [Act.put, List.getElem_toArray, List.getElem_cons_succ, List.getElem_cons_zero, List.setIfInBounds_toArray, List.set_cons_zero, List.set_cons_succ]
  refine wpDet_take (v := ?_) rfl (by kernel_rfl) (fun w0 hSw => ?_) ?_
  rotate_left 1
  · have y0 := (hSw.cell (p := ⟨w.heap.size, 0, none⟩) hlt).trans k0; have y1 := (hSw.cell (p := ⟨w.heap.size, 1, none⟩) hlt).trans k1; have y2 := (hSw.cell (p := ⟨w.heap.size, 2, none⟩) hlt).trans k2; have y3 := (hSw.cell (p := ⟨w.heap.size, 3, none⟩) hlt).trans k3
    go_simp
    with_reducible rfl
  simp only [Act.put, List.getElem_toArray, List.getElem_cons_succ, List.getElem_cons_zero, List.setIfInBounds_toArray, List.set_cons_zero, List.set_cons_succ]
  refine wpDet_call (v := .bool true) rfl (by kernel_rfl) (fun w0 hSw K hK => ?_) ?_
  · go_simp
    go_at_call 59
    refine (C3.out _).mono ?_
    rintro e w1 ⟨rfl, rfl⟩
    exact hK _ hSw
  simp only [Act.put, List.getElem_toArray, List.getElem_cons_succ, List.getElem_cons_zero, List.setIfInBounds_toArray, List.set_cons_zero, List.set_cons_succ]
  refine wpDet_take (v := ?_) rfl (by kernel_rfl) (fun w0 hSw => ?_) ?_
  rotate_left 1
  · have y0 := (hSw.cell (p := ⟨w.heap.size, 0, none⟩) hlt).trans k0; have y1 := (hSw.cell (p := ⟨w.heap.size, 1, none⟩) hlt).trans k1; have y2 := (hSw.cell (p := ⟨w.heap.size, 2, none⟩) hlt).trans k2; have y3 := (hSw.cell (p := ⟨w.heap.size, 3, none⟩) hlt).trans k3
    go_simp
    with_reducible rfl
  simp only [Act.put, List.getElem_toArray, List.getElem_cons_succ, List.getElem_cons_zero, List.setIfInBounds_toArray, List.set_cons_zero, List.set_cons_succ]
  refine wpDet_take (v := ?_) rfl (by kernel_rfl) (fun w0 hSw => ?_) ?_
  rotate_left 1
  · have y0 := (hSw.cell (p := ⟨w.heap.size, 0, none⟩) hlt).trans k0; have y1 := (hSw.cell (p := ⟨w.heap.size, 1, none⟩) hlt).trans k1; have y2 := (hSw.cell (p := ⟨w.heap.size, 2, none⟩) hlt).trans k2; have y3 := (hSw.cell (p := ⟨w.heap.size, 3, none⟩) hlt).trans k3
    go_simp
    with_reducible rfl
  simp only [Act.put, List.getElem_toArray, List.getElem_cons_succ, List.getElem_cons_zero, List.setIfInBounds_toArray, List.set_cons_zero, List.set_cons_succ]
  refine wpDet_take (v := ?_) rfl (by kernel_rfl) (fun w0 hSw => ?_) ?_
  rotate_left 1
  · have y0 := (hSw.cell (p := ⟨w.heap.size, 0, none⟩) hlt).trans k0; have y1 := (hSw.cell (p := ⟨w.heap.size, 1, none⟩) hlt).trans k1; have y2 := (hSw.cell (p := ⟨w.heap.size, 2, none⟩) hlt).trans k2; have y3 := (hSw.cell (p := ⟨w.heap.size, 3, none⟩) hlt).trans k3
    go_simp
    with_reducible rfl
  simp only [Act.put, List.getElem_toArray, List.getElem_cons_succ, List.getElem_cons_zero, List.setIfInBounds_toArray, List.set_cons_zero, List.set_cons_succ]
  refine wpDet_take (v := ?_) rfl (by kernel_rfl) (fun w0 hSw => ?_) ?_
  rotate_left 1
  · have y0 := (hSw.cell (p := ⟨w.heap.size, 0, none⟩) hlt).trans k0; have y1 := (hSw.cell (p := ⟨w.heap.size, 1, none⟩) hlt).trans k1; have y2 := (hSw.cell (p := ⟨w.heap.size, 2, none⟩) hlt).trans k2; have y3 := (hSw.cell (p := ⟨w.heap.size, 3, none⟩) hlt).trans k3
    go_simp
    with_reducible rfl
  simp only [Act.put, List.getElem_toArray, List.getElem_cons_succ, List.getElem_cons_zero, List.setIfInBounds_toArray, List.set_cons_zero, List.set_cons_succ]
  refine wpDet_take (v := .agg (D.map bv).toArray) rfl (by kernel_rfl) (fun w0 hSw => exec_loadF (ty := 34) (x := .tmp 32) (p := .pointer (some ⟨w.heap.size, 4, none⟩)) (by kernel_rfl) (by kernel_rfl) (run_loadAt_mid w0 w.heap.size 4 34 (D.map bv) _ (range_belowF h4 hSw hlt) Tryz.underlying34 rfl hinfD)) ?_
  simp only [Act.put, List.getElem_toArray, List.getElem_cons_succ, List.getElem_cons_zero, List.setIfInBounds_toArray, List.set_cons_zero, List.set_cons_succ]
  refine wpDet_take (v := .agg RC.toArray) rfl (by kernel_rfl) (fun w0 hSw => exec_loadF (ty := 36) (x := .tmp 1) (p := .pointer (some ⟨w.heap.size, 0, none⟩)) (by kernel_rfl) (by kernel_rfl) (run_loadAt_mid w0 w.heap.size 0 36 RC _ (range_belowF h0 hSw hlt) Tryz.underlying36 rfl hinfR)) ?_
  simp only [Act.put, List.getElem_toArray, List.getElem_cons_succ, List.getElem_cons_zero, List.setIfInBounds_toArray, List.set_cons_zero, List.set_cons_succ]
  refine wpDet_call (v := .agg (D.map bv).toArray) rfl (by kernel_rfl) (fun w0 hSw K hK => ?_) ?_
  · go_simp
    go_at_call 60
    refine (C4.out _ (hB.trans (hSw.mono hB.size))).mono ?_
    rintro e w1 ⟨rfl, hb⟩
    exact hK _ (hSw.trans (hb.mono hSw.size))
  simp only [Act.put, List.getElem_toArray, List.getElem_cons_succ, List.getElem_cons_zero, List.setIfInBounds_toArray, List.set_cons_zero, List.set_cons_succ]
  refine wpDet_take (v := .bool false) rfl (by kernel_rfl) (fun w0 hSw => ?_) ?_
  · have hq := HQ.out w0
    go_simp
  simp only [Act.put, List.getElem_toArray, List.getElem_cons_succ, List.getElem_cons_zero, List.setIfInBounds_toArray, List.set_cons_zero, List.set_cons_succ]
  refine wpDet_done ?_
  intro w2 hS2
  simp only [List.drop_succ_cons, List.drop_zero]
  clear h0 h4 hinfR hinfD
  go_wp2_with fail
  go_ret
  exact ⟨rfl, hB.trans (hS2.mono hB.size)⟩
end Go.Proofs.YthckledagggoiaaGreatDoor
