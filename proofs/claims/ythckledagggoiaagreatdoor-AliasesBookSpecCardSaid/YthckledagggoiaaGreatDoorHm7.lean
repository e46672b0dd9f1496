import Derived.Test.YthckledagggoiaaGreatDoorHm6
set_option linter.unusedSimpArgs false
set_option linter.unusedVariables false
namespace Go.Proofs.YthckledagggoiaaGreatDoor
open Go.RowKit Go.MapKept Go.Shelf Fk
attribute [local go_sem] Oper.semAt_some
/-! homes.Where. -/
theorem rowAt {w : World} {n : Nat} (h : w.heap.size = n) (t : TypeId) (vs : List Value) : Row (w.alloc (.cells vs.toArray t)) n t vs := h ▸ Row.new w t vs
theorem two_new (w : World) (o : Obj) (t : TypeId) (vs : List Value) : Row ((w.alloc o).alloc (.cells vs.toArray t)) (w.heap.size + 1) t vs := rowAt (by simp) t vs
theorem st3h {W : World} {g : Nat} {t : TypeId} {a b c : Value} (h : Row W g t [a, b, c]) : W.cell? ⟨g, 0, none⟩ = some a ∧ W.cell? ⟨g, 1, none⟩ = some b ∧ W.cell? ⟨g, 2, none⟩ = some c := ⟨h.cell 0, h.cell 1, h.cell 2⟩
theorem ret_where (tmps : Array Value) (W : World) (g : Nat) (k q o E : Int) (h8 : tmps[8]?.getD undef = .pointer (some ⟨g, 0, none⟩)) (h9 : tmps[9]?.getD undef = .int .i64 E) (hr : Row W g 30 [.int .i64 k, .int .i64 q, .int .i64 o]) :
    (results Tryz.f40 tmps).run Tryz.prog W = .ok (.tuple #[homeV k q o, .int .i64 E]) W := by
  obtain ⟨m0, m1, m2⟩ := st3h hr
  simp [results, Tryz.f40, go_sem, h8, h9, m0, m1, m2]
set_option maxRecDepth 100000 in
set_option maxHeartbeats 2000000 in
theorem where_none (l : List En) (v : Value) (person day time : Int) (w : World) (h : SlE w w.heap.size v l) (hs : openE l person day time ≠ 0) :
    Calls Tryz.prog 40 #[v, .int .i64 person, .int .i64 day, .int .i64 time] w fun e w' => e = .returned (.tuple #[homeV 0 0 0, .int .i64 (openE l person day time)]) ∧ Below w.heap.size w w' := by
  have hop := fun (W : World) (hb : Below w.heap.size w W) => open_none l v person day time W ((h.below hb).mono hb.size) hs
  obtain ⟨E, hE⟩ : ∃ E, openE l person day time = E := ⟨_, rfl⟩
  rw [hE] at hop hs
  rw [hE]
  have HOP := Lib.hid hop
  have f0 : (E != 0) = true := bne_iff_ne.2 hs
  have hlay := two_new w (.cells #[.int .i64 person] 3) 30 [.int .i64 0, .int .i64 0, .int .i64 0]
  have HB := Lib.hid (((Below.refl w.heap.size w).alloc (Nat.le_refl _) (.cells #[.int .i64 person] 3)).alloc (by simp) (.cells #[.int .i64 0, .int .i64 0, .int .i64 0] 30))
  have HL := Lib.hid hlay
  clear hop hE h hs hlay
  go_enter Tryz.func40, Tryz.ntmps40
  go_wp2_with (go_at_call 52; (with_reducible refine (HOP.out _ HB.out).mono ?_); rintro e w1 ⟨rfl, hb1⟩; have r8 := (HL.out.below hb1 (by simp)).alloc (.cells #[.map none] 104); obtain ⟨m0, m1, m2⟩ := st3h r8; have ff := fun i => Row.frozen r8 i)
  exact bodyPost_ret (ret_where _ _ (w.heap.size + 1) 0 0 0 E rfl rfl (((r8.store 0 (.int .i64 0)).store 1 (.int .i64 0)).store 2 (.int .i64 0))) rfl ⟨rfl, (((((HB.out.trans (hb1.mono HB.out.size)).alloc (by have := hb1.size; simp at this; omega) _).setCell (p := ⟨w.heap.size + 1, 0, none⟩) (by simp) _).setCell (p := ⟨w.heap.size + 1, 1, none⟩) (by simp) _).setCell (p := ⟨w.heap.size + 1, 2, none⟩) (by simp) _)⟩

theorem where_end {w X : World} {Bd : Nat} {R : Int × Int × Int} (tmps : Array Value) (k q o : Int) (hR : R = (k, q, o)) (h8 : tmps[8]?.getD undef = .pointer (some ⟨w.heap.size + 1, 0, none⟩)) (h9 : tmps[9]?.getD undef = .int .i64 0)
    (hX : Below w.heap.size w X) (hr : Row X (w.heap.size + 1) 30 [.int .i64 0, .int .i64 0, .int .i64 0]) (hD : X.heap[Bd]? = some (.deferred (some []))) (hB : w.heap.size + 2 ≤ Bd) :
    bodyPostM Fence.wide 3 Tryz.prog Tryz.f40 (fun e w' => e = .returned (.tuple #[hv R, .int .i64 0]) ∧ Below w.heap.size w w') .ret { tmps := tmps, defers := [{ target := .collected Bd, args := #[] }] }
      (((X.setCell ⟨w.heap.size + 1, 0, none⟩ (.int .i64 k)).setCell ⟨w.heap.size + 1, 1, none⟩ (.int .i64 q)).setCell ⟨w.heap.size + 1, 2, none⟩ (.int .i64 o)) := by
  subst hR
  have hr2 := ((hr.store 0 (.int .i64 k)).store 1 (.int .i64 q)).store 2 (.int .i64 o)
  have hX2 := ((hX.setCell (p := ⟨w.heap.size + 1, 0, none⟩) (by simp) (.int .i64 k)).setCell (p := ⟨w.heap.size + 1, 1, none⟩) (by simp) (.int .i64 q)).setCell (p := ⟨w.heap.size + 1, 2, none⟩) (by simp) (.int .i64 o)
  have hD2 : (((X.setCell ⟨w.heap.size + 1, 0, none⟩ (.int .i64 k)).setCell ⟨w.heap.size + 1, 1, none⟩ (.int .i64 q)).setCell ⟨w.heap.size + 1, 2, none⟩ (.int .i64 o)).heap[Bd]? = some (.deferred (some [])) :=
    (Below.heap_setCell _ _ _ _ (by simp only []; omega)).trans ((Below.heap_setCell _ _ _ _ (by simp only []; omega)).trans ((Below.heap_setCell _ _ _ _ (by simp only []; omega)).trans hD))
  refine ⟨by simp, .inl ⟨_, _, rfl, run_takeDeferred hD2, ?_⟩⟩
  refine ⟨.tuple #[homeV k q o, .int .i64 0], ret_where _ _ (w.heap.size + 1) k q o 0 h8 h9 (hr2.keep (World.putObj_heap_other (by omega))), rfl, hX2.grown (grownBy_putObj' _ Bd (.deferred none)) hX2.size (fun r e => by have := Option.some.inj e; omega)⟩
set_option maxRecDepth 100000 in
set_option maxHeartbeats 4000000 in
theorem where_some (l : List En) (v : Value) (person day time : Int) (w : World) (h : SlE w w.heap.size v l) (hs : openE l person day time = 0) :
    Calls Tryz.prog 40 #[v, .int .i64 person, .int .i64 day, .int .i64 time] w fun e w' => e = .returned (.tuple #[hv (whereH l person day time), .int .i64 0]) ∧ Below w.heap.size w w' := by
  have e0 : whereH l person day time = whereD (deskL (standX l day time)) person (endL (standX l day time) person) := by unfold whereH; rw [if_pos hs]
  rw [e0]
  clear e0
  obtain ⟨LC, hch, hlast⟩ := chain_desk (standX l day time) person
  have hop := fun (W : World) (hb : Below w.heap.size w W) => open_some l v person day time W ((h.below hb).mono hb.size) hs
  obtain ⟨D, hD⟩ : ∃ D, deskL (standX l day time) = D := ⟨_, rfl⟩
  obtain ⟨Q, hQ⟩ : ∃ Q, endL (standX l day time) person = Q := ⟨_, rfl⟩
  rw [hD] at hch hop
  rw [hQ] at hlast
  rw [hD, hQ]
  obtain ⟨R, hR⟩ : ∃ R, whereD D person Q = R := ⟨_, rfl⟩
  rw [hR]
  have HR := Lib.hid hR
  clear hR
  have HOP := Lib.hid hop
  have HCH := Lib.hid hch
  have HLA := Lib.hid hlast
  have hlay := two_new w (.cells #[.int .i64 person] 3) 30 [.int .i64 0, .int .i64 0, .int .i64 0]
  have hlay5 := (Boxed.new w 3 (.int .i64 person)).alloc (.cells #[.int .i64 0, .int .i64 0, .int .i64 0] 30)
  have HB := Lib.hid (((Below.refl w.heap.size w).alloc (Nat.le_refl _) (.cells #[.int .i64 person] 3)).alloc (by simp) (.cells #[.int .i64 0, .int .i64 0, .int .i64 0] 30))
  have HL := Lib.hid hlay
  have HL5 := Lib.hid hlay5
  have hask := asked_any
  have HA := Lib.hid hask
  clear hop hch hlast hD hQ h hs hlay hlay5 hask
  refine (callsIn_wide (n := 3)).1 ?_
  refine callsIn_of_wp_marks Tryz.func40 rfl trivial ?_ rfl
  simp only [Tryz.ntmps40, List.size_toArray, List.length_cons, List.length_nil, Nat.reduceAdd, Nat.reduceSub, Array.replicate_succ, Array.replicate_zero, List.push_toArray, List.append_toArray, List.nil_append, List.cons_append]
  gi_wp2_with (first
    | (refine ⟨trivial, ?_⟩; gi_at_call 52; refine (callsIn_wide.2 (HOP.out _ HB.out)).mono ?_; rintro e w1 ⟨⟨bd, rfl, hdk⟩, hb1⟩; have hz1 := hb1.size; simp at hz1; have r8 := (HL.out.below hb1 (by simp)).alloc (.cells #[.map (some bd)] 104); have p5 : Boxed (w1.alloc (.cells #[.map (some bd)] 104)) w.heap.size 3 (.int .i64 person) := Boxed.alloc ((hb1.block _ (by simp; omega)).trans HL5.out) _; have p10 := Boxed.new w1 104 (.map (some bd)); have c5 := p5.cell; have c5b := ((p5.alloc (.cells #[.int .i64 person] 3)).alloc (.cells #[.bool false] 4)).cell; have HDK := Lib.hid hdk; clear hdk)
    | (refine ⟨trivial, ?_⟩; gi_at_call 53; refine (callsIn_wide.2 (HA.out _ _ _)).mono ?_; rintro e w2 ⟨rfl, rfl⟩))
  obtain ⟨W0, hW0⟩ : ∃ W0 : World, ((((w1.alloc (.cells #[.map (some bd)] 104)).alloc (.cells #[.int .i64 person] 3)).alloc (.cells #[.bool false] 4)).alloc (.cells #[.map (some bd)] 104)).alloc (.cells #[.int .i64 person] 3) = W0 := ⟨_, rfl⟩
  have hz : W0.heap.size = w1.heap.size + 5 := by rw [← hW0]; simp
  have k11 : Boxed W0 (w1.heap.size + 1) 3 (.int .i64 person) := by
    rw [← hW0]; have := Boxed.new (w1.alloc (.cells #[.map (some bd)] 104)) 3 (.int .i64 person); rw [World.size_alloc] at this; exact ((this.alloc _).alloc _).alloc _
  have k12 : Boxed W0 (w1.heap.size + 1 + 1) 4 (.bool false) := by
    rw [← hW0]; have := Boxed.new ((w1.alloc (.cells #[.map (some bd)] 104)).alloc (.cells #[.int .i64 person] 3)) 4 (.bool false); rw [World.size_alloc, World.size_alloc] at this; exact (this.alloc _).alloc _
  have kx : Boxed W0 (w1.heap.size + 1 + 1 + 1) 104 (.map (some bd)) := by
    rw [← hW0]; have := Boxed.new (((w1.alloc (.cells #[.map (some bd)] 104)).alloc (.cells #[.int .i64 person] 3)).alloc (.cells #[.bool false] 4)) 104 (.map (some bd)); rw [World.size_alloc, World.size_alloc, World.size_alloc] at this; exact this.alloc _
  have kp : Boxed W0 (w1.heap.size + 1 + 1 + 1 + 1) 3 (.int .i64 person) := by
    rw [← hW0]; have := Boxed.new ((((w1.alloc (.cells #[.map (some bd)] 104)).alloc (.cells #[.int .i64 person] 3)).alloc (.cells #[.bool false] 4)).alloc (.cells #[.map (some bd)] 104)) 3 (.int .i64 person); rw [World.size_alloc, World.size_alloc, World.size_alloc, World.size_alloc] at this; exact this
  have k10 : Boxed W0 w1.heap.size 104 (.map (some bd)) := by rw [← hW0]; exact (((p10.alloc _).alloc _).alloc _).alloc _
  have hBW : Below w1.heap.size w1 W0 := by rw [← hW0]; exact ((((((Below.refl _ _).alloc (Nat.le_refl _) _).alloc (by simp) _).alloc (by simp; omega) _).alloc (by simp; omega) _).alloc (by simp; omega) _)
  have r8w : Row w1 (w.heap.size + 1) 30 [.int .i64 0, .int .i64 0, .int .i64 0] := HL.out.below hb1 (by simp)
  have p5w : Boxed w1 w.heap.size 3 (.int .i64 person) := (hb1.block _ (by simp; omega)).trans HL5.out
  have hBw : Below w.heap.size w w1 := HB.out.trans (hb1.mono HB.out.size)
  rw [hW0]
  clear hW0 p10 p5 r8 c5 c5b hb1 HB HL HL5 HA HOP
  obtain ⟨base, hbase⟩ : ∃ base, ((w.alloc (.cells #[.int .i64 person] 3)).alloc (.cells #[.int .i64 0, .int .i64 0, .int .i64 0] 30)).heap.size = base := ⟨_, rfl⟩
  rw [hbase] at HDK
  clear hbase
  have hseq := asked_seq base D person LC HCH.out (w1.heap.size + 1 + 1 + 1 + 1) (w1.heap.size + 1 + 1 + 1) bd w1.heap.size (W0.heap.size + 2) (by omega) 2 (by omega)
  refine wpIn_rangeL (w := W0) rfl (by omega) (gf := 111) (lb := #[.pointer (some ⟨w1.heap.size + 1 + 1 + 1 + 1, 0, none⟩), .pointer (some ⟨w1.heap.size + 1 + 1 + 1, 0, none⟩)]) rfl trivial (enters_of Tryz.func111 (by kernel_rfl) rfl)
    hseq
    (fun W hW => ⟨(hW.block _ (by omega)).trans kp, (hW.block _ (by omega)).trans kx, w1, Nat.le_refl _, HDK.out, hBW.trans (hW.mono (by omega))⟩) (by omega) (by omega) (by omega)
    (fun v hv => by obtain ⟨p, _, rfl⟩ := List.mem_map.1 hv; rfl)
    (fun j W => Boxed W (w1.heap.size + 1) 3 (.int .i64 (lastQ person LC j).1) ∧ Boxed W (w1.heap.size + 1 + 1) 4 (.bool (lastQ person LC j).2) ∧ Boxed W w1.heap.size 104 (.map (some bd)) ∧ Below w1.heap.size w1 W)
    (fun cd j W => False)
    (fun j W W' row hs hg hr => by
      have hr' : ∀ r, row = some r → r = w1.heap.size + 1 + 1 + 1 + 1 ∨ W0.heap.size + 1 ≤ r := fun r e => by rcases hr r e with (h | h) | h <;> omega
      exact ⟨hs.1.kept hg (fun e => by have := hr' _ e.symm; omega), hs.2.1.kept hg (fun e => by have := hr' _ e.symm; omega), hs.2.2.1.kept hg (fun e => by have := hr' _ e.symm; omega), hs.2.2.2.grown hg hs.2.2.2.size (fun r e => by have := hr' _ e; omega)⟩)
    (fun cd j W W' row h hg hr => h)
    ⟨k11, k12, k10, hBW⟩
    (fun j a' W => ∃ q, LC[j]? = some q ∧ a' = { tmps := #[v, Value.int IntKind.i64 person, Value.int IntKind.i64 day, Value.int IntKind.i64 time, undef, Value.pointer (some { block := w.heap.size, off := 0 }), undef, undef, Value.pointer (some { block := w.heap.size + 1, off := 0 }), Value.int IntKind.i64 0, Value.pointer (some { block := w1.heap.size, off := 0 }), Value.pointer (some { block := w1.heap.size + 1, off := 0 }), Value.pointer (some { block := w1.heap.size + 1 + 1, off := 0 }), Value.int IntKind.i64 q.1, Value.bool q.2, undef, undef, undef, Value.tuple #[Value.map (some bd), Value.int IntKind.i64 0], v, Value.int IntKind.i64 person, Value.int IntKind.i64 day, Value.int IntKind.i64 time, Value.tuple #[Value.map (some bd), Value.int IntKind.i64 0], Value.map (some bd), Value.int IntKind.i64 0, Value.int IntKind.i64 0, Value.bool false, undef, undef, Value.int IntKind.i64 person, Value.map (some bd), Value.int IntKind.i64 person, Value.func (Fn.func 111) #[] #[Value.pointer (some { block := w1.heap.size + 1 + 1 + 1 + 1, off := 0 }), Value.pointer (some { block := w1.heap.size + 1 + 1 + 1, off := 0 })], Value.int IntKind.i64 q.1, Value.bool q.2, undef, undef, undef, undef, undef, undef, undef, undef, undef, undef, undef, undef, undef, undef, undef, undef, undef, undef, undef, undef, undef, undef, undef, undef, undef, undef, undef], defers := [] })
    (fun j a' _ W W' row h hg hr => h) ?assign ?body ?done ?stop
  case assign =>
    rintro L j v W K hI hv hsz hK
    rw [List.getElem?_map] at hv
    obtain ⟨q, hq, rfl⟩ := Option.map_eq_some_iff.1 hv
    clear hv
    have HI := Lib.hid hI
    clear hI
    unfold askV
    gi_wp2
    exact hK _ _ (Kept.refl _ _) (SameOn.refl _ _) HI.out ⟨q, hq, rfl⟩
  case body =>
    rintro L j v a' W ⟨i1, i2, i3, i4⟩ ⟨q, hq, rfl⟩ hv hsz
    have c1 := i1.cell
    have c2 := i1.frozen
    have c3 := (i2.other (B' := w1.heap.size + 1) (by omega) (.int .i64 q.1)).cell
    have c4 := (i2.other (B' := w1.heap.size + 1) (by omega) (.int .i64 q.1)).frozen
    have I1 := Lib.hid i1
    have I2 := Lib.hid i2
    have HQ := Lib.hid hq
    clear hq hv i1 i2
    gi_wp2
    refine ⟨(Kept.setCell _ _ (by simp only []; omega) (by simp only []; omega)).trans (Kept.setCell _ _ (by simp only []; omega) (by simp only []; omega)), ?_, ?_, ?_, ?_, ?_⟩
    · intro r hr
      refine (Below.heap_setCell _ _ _ r ?_).trans (Below.heap_setCell _ _ _ r ?_)
      · rcases hr with h | h | h | h <;> simp only [] <;> omega
      · rcases hr with h | h | h | h <;> simp only [] <;> omega
    · rw [lastQ_succ person HQ.out]
      exact (I1.out.set (.int .i64 q.1)).other (B' := w1.heap.size + 1 + 1) (by omega) (.bool q.2)
    · rw [lastQ_succ person HQ.out]
      exact (I2.out.other (B' := w1.heap.size + 1) (by omega) (.int .i64 q.1)).set (.bool q.2)
    · exact (i3.other (B' := w1.heap.size + 1) (by omega) (.int .i64 q.1)).other (B' := w1.heap.size + 1 + 1) (by omega) (.bool q.2)
    · exact (i4.setCell (p := ⟨w1.heap.size + 1, 0, none⟩) (by simp) _).setCell (p := ⟨w1.heap.size + 1 + 1, 0, none⟩) (by simp; omega) _
  case done =>
    rintro W ⟨i1, i2, i3, i4⟩ hsz hD
    rw [List.length_map, lastQ_all person HLA.out] at i1 i2
    rw [hz] at hD
    clear hseq k11 k12 kx kp k10 hBW
    obtain ⟨qp, qc⟩ := Q
    have hK : ∀ X : World, Below W.heap.size W X → Boxed X (w1.heap.size + 1 + 1) 4 (.bool qc) ∧ Boxed X w.heap.size 3 (.int .i64 person) ∧ Boxed X (w1.heap.size + 1) 3 (.int .i64 qp) ∧ Boxed X w1.heap.size 104 (.map (some bd)) ∧ DeskK base X bd D ∧
        Row X (w.heap.size + 1) 30 [.int .i64 0, .int .i64 0, .int .i64 0] ∧ Below w.heap.size w X ∧ X.heap[w1.heap.size + 5]? = some (.deferred (some [])) := fun X hX => by
      have hX1 : Below w1.heap.size w1 X := i4.trans (hX.mono (by omega))
      exact ⟨(hX.block _ i2.lt).trans i2, (hX1.block _ (by omega)).trans p5w, (hX.block _ i1.lt).trans i1, (hX.block _ i3.lt).trans i3, HDK.out.below hX1, r8w.below hX1 (by omega), hBw.trans (hX1.mono (by omega)), (hX.block _ (by omega)).trans hD⟩
    have hzW : w1.heap.size + 5 + 2 ≤ W.heap.size := by omega
    have b15 := Boxed.new W 101 (saysV w1.heap.size (w1.heap.size + 1))
    have rT := two_new W (.cells #[saysV w1.heap.size (w1.heap.size + 1)] 101) 149 [.func (.func 95) #[] #[.pointer (some ⟨w1.heap.size + 1 + 1, 0, none⟩)], .func (.func 96) #[] #[.pointer (some ⟨w.heap.size, 0, none⟩)], .func (.func 97) #[] #[.pointer (some ⟨W.heap.size, 0, none⟩)], .func (.func 98) #[] #[.pointer (some ⟨w1.heap.size + 1, 0, none⟩)], .func (.func 99) #[] #[.pointer (some ⟨W.heap.size, 0, none⟩)], .func (.func 100) #[] #[.pointer (some ⟨w1.heap.size + 1, 0, none⟩), .pointer (some ⟨w1.heap.size, 0, none⟩)]]
    have hBT : Below W.heap.size W ((W.alloc (.cells #[saysV w1.heap.size (w1.heap.size + 1)] 101)).alloc (.cells #[.func (.func 95) #[] #[.pointer (some ⟨w1.heap.size + 1 + 1, 0, none⟩)], .func (.func 96) #[] #[.pointer (some ⟨w.heap.size, 0, none⟩)], .func (.func 97) #[] #[.pointer (some ⟨W.heap.size, 0, none⟩)], .func (.func 98) #[] #[.pointer (some ⟨w1.heap.size + 1, 0, none⟩)], .func (.func 99) #[] #[.pointer (some ⟨W.heap.size, 0, none⟩)], .func (.func 100) #[] #[.pointer (some ⟨w1.heap.size + 1, 0, none⟩), .pointer (some ⟨w1.heap.size, 0, none⟩)]] 149)) := ((Below.refl _ _).alloc (Nat.le_refl _) _).alloc (by simp) _
    have b15' := b15.alloc (.cells #[.func (.func 95) #[] #[.pointer (some ⟨w1.heap.size + 1 + 1, 0, none⟩)], .func (.func 96) #[] #[.pointer (some ⟨w.heap.size, 0, none⟩)], .func (.func 97) #[] #[.pointer (some ⟨W.heap.size, 0, none⟩)], .func (.func 98) #[] #[.pointer (some ⟨w1.heap.size + 1, 0, none⟩)], .func (.func 99) #[] #[.pointer (some ⟨W.heap.size, 0, none⟩)], .func (.func 100) #[] #[.pointer (some ⟨w1.heap.size + 1, 0, none⟩), .pointer (some ⟨w1.heap.size, 0, none⟩)]] 149)
    clear i1 i2 i3 i4 hD p5w r8w hBw b15
    gi_wp2
    obtain ⟨WT, hWT⟩ : ∃ WT : World, (W.alloc (.cells #[saysV w1.heap.size (w1.heap.size + 1)] 101)).alloc (.cells #[.func (.func 95) #[] #[.pointer (some ⟨w1.heap.size + 1 + 1, 0, none⟩)], .func (.func 96) #[] #[.pointer (some ⟨w.heap.size, 0, none⟩)], .func (.func 97) #[] #[.pointer (some ⟨W.heap.size, 0, none⟩)], .func (.func 98) #[] #[.pointer (some ⟨w1.heap.size + 1, 0, none⟩)], .func (.func 99) #[] #[.pointer (some ⟨W.heap.size, 0, none⟩)], .func (.func 100) #[] #[.pointer (some ⟨w1.heap.size + 1, 0, none⟩), .pointer (some ⟨w1.heap.size, 0, none⟩)]] 149) = WT := ⟨_, rfl⟩
    replace rT : Row WT (W.heap.size + 1) 149 [.func (.func 95) #[] #[.pointer (some ⟨w1.heap.size + 1 + 1, 0, none⟩)], .func (.func 96) #[] #[.pointer (some ⟨w.heap.size, 0, none⟩)], .func (.func 97) #[] #[.pointer (some ⟨W.heap.size, 0, none⟩)], .func (.func 98) #[] #[.pointer (some ⟨w1.heap.size + 1, 0, none⟩)], .func (.func 99) #[] #[.pointer (some ⟨W.heap.size, 0, none⟩)], .func (.func 100) #[] #[.pointer (some ⟨w1.heap.size + 1, 0, none⟩), .pointer (some ⟨w1.heap.size, 0, none⟩)]] := hWT ▸ rT
    rw [hWT] at hBT b15' ⊢
    have hzT : WT.heap.size = W.heap.size + 2 := by rw [← hWT]; simp
    clear hWT
    have hK2 := fun (X : World) (hX : Below WT.heap.size WT X) => hK X (hBT.trans (hX.mono (by omega)))
    have hb15 := fun (X : World) (hX : Below WT.heap.size WT X) => (show Boxed X W.heap.size 101 (saysV w1.heap.size (w1.heap.size + 1)) from (hX.block _ b15'.lt).trans b15')
    have k2 := fun (X : World) (hX : Below WT.heap.size WT X) => wh2_any (w1.heap.size + 1 + 1) qc X (hK2 X hX).1
    have k3 := fun (X : World) (hX : Below WT.heap.size WT X) => wh3_any w.heap.size person X (hK2 X hX).2.1
    have k5 := fun (X : World) (hX : Below WT.heap.size WT X) => wh5_any (w1.heap.size + 1) qp X (hK2 X hX).2.2.1
    have k4 := fun (X : World) (hX : Below WT.heap.size WT X) => wh4_any base bd w1.heap.size (w1.heap.size + 1) W.heap.size D qp X (hK2 X hX).2.2.2.1 (hK2 X hX).2.2.1 (hb15 X hX) (hK2 X hX).2.2.2.2.1
    have k6 := fun (X : World) (hX : Below WT.heap.size WT X) => wh6_any base bd w1.heap.size (w1.heap.size + 1) W.heap.size D qp X (hK2 X hX).2.2.2.1 (hK2 X hX).2.2.1 (hb15 X hX) (hK2 X hX).2.2.2.2.1
    have k7 := fun (X : World) (hX : Below WT.heap.size WT X) => wh7_any base bd w1.heap.size (w1.heap.size + 1) D qp X (hK2 X hX).2.2.2.1 (hK2 X hX).2.2.1 (hK2 X hX).2.2.2.2.1
    have hR := HR.out
    unfold whereD at hR
    obtain ⟨s34, h34⟩ : ∃ s, ((D 3 qp).isSome || (D 4 qp).isSome) = s := ⟨_, rfl⟩
    obtain ⟨s1, h1⟩ : ∃ s, (D 1 qp).isSome = s := ⟨_, rfl⟩
    obtain ⟨o, ho⟩ : ∃ o, ((D 1 qp).getD zeroE).b = o := ⟨_, rfl⟩
    simp only [h34, h1, ho] at hR
    rw [h34] at k4
    rw [h1] at k6
    rw [ho] at k7
    clear h34 h1 ho HR
    have HR := Lib.hid hR
    clear hR
    have K2 := Lib.hid k2
    have K3 := Lib.hid k3
    have K4 := Lib.hid k4
    have K5 := Lib.hid k5
    have K6 := Lib.hid k6
    have K7 := Lib.hid k7
    have HK2 := Lib.hid hK2
    clear k2 k3 k4 k5 k6 k7 hK hK2 hb15 b15' hBT
    obtain ⟨m0, m1, m2, m3, m4, m5⟩ : (WT.cell? ⟨W.heap.size + 1, 0, none⟩ = some (.func (.func 95) #[] #[.pointer (some ⟨w1.heap.size + 1 + 1, 0, none⟩)]) ∧ WT.cell? ⟨W.heap.size + 1, 1, none⟩ = some (.func (.func 96) #[] #[.pointer (some ⟨w.heap.size, 0, none⟩)]) ∧ WT.cell? ⟨W.heap.size + 1, 2, none⟩ = some (.func (.func 97) #[] #[.pointer (some ⟨W.heap.size, 0, none⟩)]) ∧ WT.cell? ⟨W.heap.size + 1, 3, none⟩ = some (.func (.func 98) #[] #[.pointer (some ⟨w1.heap.size + 1, 0, none⟩)]) ∧ WT.cell? ⟨W.heap.size + 1, 4, none⟩ = some (.func (.func 99) #[] #[.pointer (some ⟨W.heap.size, 0, none⟩)]) ∧ WT.cell? ⟨W.heap.size + 1, 5, none⟩ = some (.func (.func 100) #[] #[.pointer (some ⟨w1.heap.size + 1, 0, none⟩), .pointer (some ⟨w1.heap.size, 0, none⟩)])) := ⟨rT.cell 0, rT.cell 1, rT.cell 2, rT.cell 3, rT.cell 4, rT.cell 5⟩
    have hB1 := (Below.refl WT.heap.size WT).alloc (Nat.le_refl _) (.cells #[(.func (.func 95) #[] #[.pointer (some ⟨w1.heap.size + 1 + 1, 0, none⟩)]), (.func (.func 96) #[] #[.pointer (some ⟨w.heap.size, 0, none⟩)])] 149)
    have HRT := Lib.hid rT
    refine wpIn_wide.2 ?_
    refine wp_loop_rounds 4 ?_
    cases qc with
    | true =>
      have HR2 := Lib.hid (HR.out.symm.trans (if_pos rfl))
      rw [rounds_succ]
      go_wp2_with (first
        | (go_at_call 95; (with_reducible refine (K2.out _ hB1).mono ?_); rintro e X ⟨rfl, rfl⟩)
        | (go_at_call 96; (with_reducible refine (K3.out _ hB1).mono ?_); rintro e X ⟨rfl, hb2⟩; have hX := hB1.trans (hb2.mono hB1.size); obtain ⟨_, _, _, _, _, r8, hBX, hDX⟩ := HK2.out X hX; obtain ⟨n0, n1, n2⟩ := st3h r8; have ff := fun i => Row.frozen r8 i))
      exact where_end _ 2 person 0 HR2.out rfl rfl hBX r8 hDX (by omega)
    | false =>
      have HR1 := Lib.hid (HR.out.symm.trans (if_neg (by decide)))
      have q2 := (HRT.out.alloc (.cells #[.func (.func 95) #[] #[.pointer (some ⟨w1.heap.size + 1 + 1, 0, none⟩)], .func (.func 96) #[] #[.pointer (some ⟨w.heap.size, 0, none⟩)]] 149)).cell 2
      have q3 := (HRT.out.alloc (.cells #[.func (.func 95) #[] #[.pointer (some ⟨w1.heap.size + 1 + 1, 0, none⟩)], .func (.func 96) #[] #[.pointer (some ⟨w.heap.size, 0, none⟩)]] 149)).cell 3
      simp only [List.getElem?_cons_succ, List.getElem?_cons_zero] at q2 q3
      have hB2 := hB1.alloc hB1.size (.cells #[.func (.func 97) #[] #[.pointer (some ⟨W.heap.size, 0, none⟩)], .func (.func 98) #[] #[.pointer (some ⟨w1.heap.size + 1, 0, none⟩)]] 149)
      have rp2 := Row.new (WT.alloc (.cells #[.func (.func 95) #[] #[.pointer (some ⟨w1.heap.size + 1 + 1, 0, none⟩)], .func (.func 96) #[] #[.pointer (some ⟨w.heap.size, 0, none⟩)]] 149)) 149 [(.func (.func 97) #[] #[.pointer (some ⟨W.heap.size, 0, none⟩)]), (.func (.func 98) #[] #[.pointer (some ⟨w1.heap.size + 1, 0, none⟩)])]
      have rt2 := (HRT.out.alloc (.cells #[.func (.func 95) #[] #[.pointer (some ⟨w1.heap.size + 1 + 1, 0, none⟩)], .func (.func 96) #[] #[.pointer (some ⟨w.heap.size, 0, none⟩)]] 149)).alloc (.cells #[.func (.func 97) #[] #[.pointer (some ⟨W.heap.size, 0, none⟩)], .func (.func 98) #[] #[.pointer (some ⟨w1.heap.size + 1, 0, none⟩)]] 149)
      have HP2 := Lib.hid rp2
      have HT2 := Lib.hid rt2
      clear rp2 rt2
      cases s34 with
      | true =>
        have HR2 := Lib.hid (HR1.out.trans (if_pos rfl))
        rw [rounds_succ]
        go_wp2_with (go_at_call 95; (with_reducible refine (K2.out _ hB1).mono ?_); rintro e X ⟨rfl, rfl⟩)
        rw [rounds_succ]
        go_wp2_with (first
          | (go_at_call 97; (with_reducible refine (K4.out _ hB2).mono ?_); rintro e X ⟨rfl, hb2⟩; have hX := hB2.trans (hb2.mono hB2.size); have r2 := HP2.out.below hb2 (by simp); have r2c := r2.cell 1; simp only [List.getElem?_cons_succ, List.getElem?_cons_zero, World.size_alloc] at r2c; rw [hzT] at r2c)
          | (go_at_call 98; (with_reducible refine (K5.out _ hX).mono ?_); rintro e X3 ⟨rfl, hb3⟩; have hX3 := hX.trans (hb3.mono hX.size); obtain ⟨_, _, _, _, _, r8, hBX, hDX⟩ := HK2.out X3 hX3; obtain ⟨n0, n1, n2⟩ := st3h r8; have ff := fun i => Row.frozen r8 i))
        exact where_end _ 3 qp 0 HR2.out rfl rfl hBX r8 hDX (by omega)
      | false =>
        have HR2 := Lib.hid (HR1.out.trans (if_neg (by decide)))
        rw [rounds_succ]
        go_wp2_with (go_at_call 95; (with_reducible refine (K2.out _ hB1).mono ?_); rintro e X ⟨rfl, rfl⟩)
        rw [rounds_succ]
        go_wp2_with (go_at_call 97; (with_reducible refine (K4.out _ hB2).mono ?_); rintro e X ⟨rfl, hb2⟩; have hX := hB2.trans (hb2.mono hB2.size); have t3 := HT2.out.below hb2 (by simp; omega); have q4 := t3.cell 4; have q5 := t3.cell 5; simp only [List.getElem?_cons_succ, List.getElem?_cons_zero] at q4 q5)
        have hB3 := hX.alloc hX.size (.cells #[.func (.func 99) #[] #[.pointer (some ⟨W.heap.size, 0, none⟩)], .func (.func 100) #[] #[.pointer (some ⟨w1.heap.size + 1, 0, none⟩), .pointer (some ⟨w1.heap.size, 0, none⟩)]] 149)
        have rp3 := Row.new X 149 [(.func (.func 99) #[] #[.pointer (some ⟨W.heap.size, 0, none⟩)]), (.func (.func 100) #[] #[.pointer (some ⟨w1.heap.size + 1, 0, none⟩), .pointer (some ⟨w1.heap.size, 0, none⟩)])]
        have HP3 := Lib.hid rp3
        clear rp3 t3
        cases s1 with
        | true =>
          have HR3 := Lib.hid (HR2.out.trans (if_pos rfl))
          rw [rounds_succ]
          go_wp2_with (first
            | (go_at_call 99; (with_reducible refine (K6.out _ hB3).mono ?_); rintro e X4 ⟨rfl, hb4⟩; have hX4 := hB3.trans (hb4.mono hB3.size); have r4 := HP3.out.below hb4 (by simp); have r4c := r4.cell 1; simp only [List.getElem?_cons_succ, List.getElem?_cons_zero] at r4c)
            | (go_at_call 100; (with_reducible refine (K7.out _ hX4).mono ?_); rintro e X3 ⟨rfl, hb3⟩; have hX3 := hX4.trans (hb3.mono hX4.size); obtain ⟨_, _, _, _, _, r8, hBX, hDX⟩ := HK2.out X3 hX3; obtain ⟨n0, n1, n2⟩ := st3h r8; have ff := fun i => Row.frozen r8 i))
          exact where_end _ 1 qp o HR3.out rfl rfl hBX r8 hDX (by omega)
        | false =>
          have HR3 := Lib.hid (HR2.out.trans (if_neg (by decide)))
          rw [rounds_succ]
          go_wp2_with (go_at_call 99; (with_reducible refine (K6.out _ hB3).mono ?_); rintro e X4 ⟨rfl, hb4⟩; have hX4 := hB3.trans (hb4.mono hB3.size); obtain ⟨_, _, p11, _, _, r8, hBX, hDX⟩ := HK2.out X4 hX4; obtain ⟨n0, n1, n2⟩ := st3h r8; have ff := fun i => Row.frozen r8 i; have c11 := p11.cell)
          rw [rounds_succ]
          go_wp2
          gi_wp2
          exact where_end _ 2 qp 0 HR3.out rfl rfl hBX r8 hDX (by omega)
  case stop => exact fun _ _ _ _ h => h.elim
theorem where_any (l : List En) (v : Value) (person day time : Int) (w : World) (h : SlE w w.heap.size v l) :
    Calls Tryz.prog 40 #[v, .int .i64 person, .int .i64 day, .int .i64 time] w fun e w' => e = .returned (.tuple #[hv (whereH l person day time), .int .i64 (openE l person day time)]) ∧ Below w.heap.size w w' := by
  by_cases hs : openE l person day time = 0
  · rw [hs]; exact where_some l v person day time w h hs
  · have e : whereH l person day time = (0, 0, 0) := by unfold whereH; rw [if_neg hs]
    rw [e]; exact where_none l v person day time w h hs
end Go.Proofs.YthckledagggoiaaGreatDoor
