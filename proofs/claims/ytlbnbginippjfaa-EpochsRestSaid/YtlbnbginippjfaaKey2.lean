import Derived.Test.YtlbnbginippjfaaKey
namespace Go.Proofs.Ytlbnbginippjfaa
open Go.RowKit Go.Shelf Fk
attribute [local go_sem] Oper.semAt_some

theorem boxed1 (w : World) (o1 o3 : Obj) (t : TypeId) (v : Value) : Boxed (((w.alloc o1).alloc (.cells #[v] t)).alloc o3) (w.heap.size + 1) t v := by
  have := (Boxed.new (w.alloc o1) t v).alloc o3
  rwa [World.size_alloc] at this
theorem boxed2 (w : World) (o1 o2 : Obj) (t : TypeId) (v : Value) : Boxed (((w.alloc o1).alloc o2).alloc (.cells #[v] t)) (w.heap.size + 2) t v := by
  have := Boxed.new ((w.alloc o1).alloc o2) t v
  rwa [World.size_alloc, World.size_alloc] at this
theorem below3 {w w1 : World} (o1 o2 o3 : Obj) (hb1 : Below (((w.alloc o1).alloc o2).alloc o3).heap.size (((w.alloc o1).alloc o2).alloc o3) w1) : Below w.heap.size w w1 :=
  ((((Below.refl _ _).alloc (Nat.le_refl _) _).alloc (by simp) _).alloc (by simp; omega) _).trans (hb1.mono (by simp; omega))

set_option maxHeartbeats 400000 in
theorem key_bad (l : List Ep) (v : Value) (o t : Int) (w : World) (B0 : Nat) (hB : B0 ≤ w.heap.size) (h : SlEp w B0 v l) (hc : chkE l ≠ 0) :
    Calls Try.prog 53 #[v, .int .i64 o, .int .i64 t] w fun e w' => e = .returned (.tuple #[.int .i64 0, .bool false, .int .i64 (chkE l)]) ∧ Below w.heap.size w w' := by
  have hc' : (chkE l != 0) = true := by rw [bne_iff_ne]; exact hc
  obtain ⟨A, c, rfl⟩ : ∃ A c, v = .slice A l.length c := by obtain ⟨_, A, c, h, _⟩ := h; exact ⟨A, c, h⟩
  have hck := fun (W : World) (hw : Below w.heap.size w W) => epcheck_any l _ W B0 (by have := hw.size; omega) (h.below (hw.mono hB))
  have HC := Lib.hid hck
  clear hck hc h
  go_enter Try.func53, Try.ntmps53
  go_wp2_with (go_at_call 56; refine (HC.out _ ?hb).mono ?_; rotate_left; rintro e w1 ⟨rfl, hb1⟩; obtain ⟨bc, bf⟩ := bcell hb1; have bz := hb1.size; have hB1 := below3 _ _ _ hb1; simp at bz)
  case hb => exact ((((Below.refl _ _).alloc (Nat.le_refl _) _).alloc (by simp) _).alloc (by simp; omega) _)
  exact bodyPost_ret (v := .tuple #[.int .i64 0, .bool false, .int .i64 (chkE l)]) (by simp [results, Try.results53, go_sem, bc]) rfl ⟨rfl, (hB1.setCell (p := ⟨w.heap.size + 1, 0, none⟩) (by simp) _).setCell (p := ⟨w.heap.size + 1 + 1, 0, none⟩) (by simp; omega) _⟩


set_option maxHeartbeats 800000 in
theorem key_arg (l : List Ep) (v : Value) (o t : Int) (w : World) (B0 : Nat) (hB : B0 ≤ w.heap.size) (h : SlEp w B0 v l) (hc : chkE l = 0) (ha : ¬ argsOK o t) :
    Calls Try.prog 53 #[v, .int .i64 o, .int .i64 t] w fun e w' => e = .returned (.tuple #[.int .i64 0, .bool false, .int .i64 1]) ∧ Below w.heap.size w w' := by
  obtain ⟨A, c, rfl⟩ : ∃ A c, v = .slice A l.length c := by obtain ⟨_, A, c, h, _⟩ := h; exact ⟨A, c, h⟩
  have hck := fun (W : World) (hw : Below w.heap.size w W) => epcheck_any l _ W B0 (by have := hw.size; omega) (h.below (hw.mono hB))
  rw [hc] at hck
  have HC := Lib.hid hck
  clear hck hc h
  unfold argsOK at ha
  have hcs : o < 0 ∨ t < 0 ∨ 24 ≤ o ∨ 2097152 ≤ t := by omega
  clear ha
  rcases hcs with h1 | h1 | h1 | h1
  all_goals
    go_enter Try.func53, Try.ntmps53
    go_wp2_with (go_at_call 56; refine (HC.out _ ?hb).mono ?_; rotate_left; rintro e w1 ⟨rfl, hb1⟩; obtain ⟨bc, bf⟩ := bcell hb1; have bz := hb1.size; have hB1 := below3 _ _ _ hb1; simp at bz)
    case hb => exact ((((Below.refl _ _).alloc (Nat.le_refl _) _).alloc (by simp) _).alloc (by simp; omega) _)
    all_goals exact bodyPost_ret (v := .tuple #[.int .i64 0, .bool false, .int .i64 1]) (by simp [results, Try.results53, go_sem, bc]) rfl ⟨rfl, (hB1.setCell (p := ⟨w.heap.size + 1, 0, none⟩) (by simp) _).setCell (p := ⟨w.heap.size + 1 + 1, 0, none⟩) (by simp; omega) _⟩

set_option maxHeartbeats 2000000 in
theorem key_good (l : List Ep) (v : Value) (o t : Int) (w : World) (B0 : Nat) (hB : B0 ≤ w.heap.size) (h : SlEp w B0 v l) (hc : chkE l = 0) (ha : argsOK o t) :
    Calls Try.prog 53 #[v, .int .i64 o, .int .i64 t] w fun e w' => e = .returned (.tuple #[.int .i64 (keyV l o t), .bool (okV l o t), .int .i64 0]) ∧ Below w.heap.size w w' := by
  have hsl := h
  obtain ⟨A, c, rfl⟩ : ∃ A c, v = .slice A l.length c := by obtain ⟨_, A, c, h, _⟩ := h; exact ⟨A, c, h⟩
  have hck := fun (W : World) (hw : Below w.heap.size w W) => epcheck_any l _ W B0 (by have := hw.size; omega) (h.below (hw.mono hB))
  rw [hc] at hck
  have HC := Lib.hid hck
  have HS := Lib.hid hsl
  clear hck hc h hsl
  obtain ⟨h1, h2, h3, h4⟩ := ha
  obtain ⟨m, hm⟩ : ∃ m, (if t < o then t else o) = m := ⟨_, rfl⟩
  have hm0 : 0 ≤ m := by rw [← hm]; split <;> omega
  have f1 : decide (m < 0) = false := by simp; omega
  have f2 : decide (24 ≤ o) = false := by simp; omega
  have f3 : decide (2097152 ≤ t) = false := by simp; omega
  refine (callsIn_wide (n := 3)).1 ?_
  refine callsIn_of_wp_marks Try.func53 rfl trivial ?_ rfl
  simp only [Try.ntmps53, List.size_toArray, List.length_cons, List.length_nil, Nat.reduceAdd, Nat.reduceSub, Array.replicate_succ, Array.replicate_zero, List.push_toArray, List.append_toArray, List.nil_append, List.cons_append]
  gi_wp2_with (first | (refine ⟨trivial, ?_⟩; gi_at_call 56; refine (callsIn_wide.2 (HC.out _ ?hb)).mono ?_; rotate_left; rintro e w1 ⟨rfl, hb1⟩; obtain ⟨bc, bf⟩ := bcell hb1; have bz := hb1.size; have hB1 := below3 _ _ _ hb1; simp at bz) | (refine ⟨trivial, ?_⟩; gi_at_call 63; refine (callsIn_wide.2 (of_any _ _ _ _ _)).mono ?_; rintro e w' ⟨rfl, rfl⟩))
  case hb => exact ((((Below.refl _ _).alloc (Nat.le_refl _) _).alloc (by simp) _).alloc (by simp; omega) _)
  clear f1 f2 f3 hm hm0 HC bc bf
  have kT0 : Boxed w1 w.heap.size 3 (.int .i64 t) := (hb1.block _ (by simp; omega)).trans (((Boxed.new w _ _).alloc _).alloc _)
  have kK0 : Boxed w1 (w.heap.size + 1) 3 (.int .i64 0) := (hb1.block _ (by simp)).trans (boxed1 w _ _ _ _)
  have kO0 : Boxed w1 (w.heap.size + 2) 4 (.bool false) := (hb1.block _ (by simp)).trans (boxed2 w _ _ _ _)
  clear hb1
  obtain ⟨W0, hW0⟩ : ∃ W0 : World, (w1.alloc (Obj.cells #[Value.slice A l.length c] 77)).alloc (Obj.cells #[Value.int IntKind.i64 o] 3) = W0 := ⟨_, rfl⟩
  have hz : W0.heap.size = w1.heap.size + 2 := by rw [← hW0]; simp
  have kT : Boxed W0 w.heap.size 3 (.int .i64 t) := by rw [← hW0]; exact (kT0.alloc _).alloc _
  have kK : Boxed W0 (w.heap.size + 1) 3 (.int .i64 0) := by rw [← hW0]; exact (kK0.alloc _).alloc _
  have kO : Boxed W0 (w.heap.size + 2) 4 (.bool false) := by rw [← hW0]; exact (kO0.alloc _).alloc _
  have kL : Boxed W0 w1.heap.size 77 (.slice A l.length c) := by rw [← hW0]; exact (Boxed.new w1 _ _).alloc _
  have kF : Boxed W0 (w1.heap.size + 1) 3 (.int .i64 o) := by
    rw [← hW0]; have := Boxed.new (w1.alloc (Obj.cells #[Value.slice A l.length c] 77)) 3 (.int .i64 o); simpa using this
  have hBW : Below w.heap.size w W0 := by rw [← hW0]; exact (hB1.alloc hB1.size _).alloc (by simp; omega) _
  have kS : SlEp W0 B0 (.slice A l.length c) l := HS.out.below (hBW.mono hB)
  rw [hW0]
  clear hW0 kT0 kK0 kO0 HS hB1
  have hzs : w.heap.size + 3 ≤ w1.heap.size := by omega
  refine wpIn_rangeL (w := W0) rfl (by omega) (gf := 67) (lb := #[.pointer (some ⟨w1.heap.size, 0, none⟩), .pointer (some ⟨w1.heap.size + 1, 0, none⟩)]) rfl trivial (enters_of Try.func67 (by kernel_rfl) rfl)
    (of_seq_any l (.slice A l.length c) o w1.heap.size (w1.heap.size + 1) (W0.heap.size + 2) B0 (by omega) 2 (by omega))
    (fun W hW => ⟨(hW.block _ (by omega)).trans kL, (hW.block _ (by omega)).trans kF, kS.below (hW.mono (by omega))⟩) (by omega) (fun h => h) (fun h => h)
    (fun v hv => by obtain ⟨p, _, rfl⟩ := List.mem_map.1 hv; rfl)
    (fun j W => Boxed W (w.heap.size + 1) 3 (.int .i64 (lastK ((ofL l o).take j))) ∧ Boxed W (w.heap.size + 2) 4 (.bool (!((ofL l o).take j).isEmpty)) ∧ Boxed W w.heap.size 3 (.int .i64 t) ∧ Below w.heap.size w W ∧ (∀ i x, i < j → (ofL l o)[i]? = some x → x.f ≤ t))
    (fun cd j W => cd = .exit 0 ∧ ∃ i, j = i + 1 ∧ Boxed W (w.heap.size + 1) 3 (.int .i64 (lastK ((ofL l o).take i))) ∧ Boxed W (w.heap.size + 2) 4 (.bool (!((ofL l o).take i).isEmpty)) ∧ Boxed W w.heap.size 3 (.int .i64 t) ∧ Below w.heap.size w W ∧ (∀ i' x, i' < i → (ofL l o)[i']? = some x → x.f ≤ t) ∧ (∀ x, (ofL l o)[i]? = some x → t < x.f))
    (fun j W W' row hs hg hr => ⟨hs.1.kept hg (fun e => by have := (hr _ e.symm).resolve_left (fun h => h); omega), hs.2.1.kept hg (fun e => by have := (hr _ e.symm).resolve_left (fun h => h); omega), hs.2.2.1.kept hg (fun e => by have := (hr _ e.symm).resolve_left (fun h => h); omega), hs.2.2.2.1.grown hg hs.2.2.2.1.size (fun r e => by have := (hr _ e).resolve_left (fun h => h); omega), hs.2.2.2.2⟩)
    (fun cd j W W' row ⟨hcd, i, hji, hs⟩ hg hr => ⟨hcd, i, hji, hs.1.kept hg (fun e => by have := (hr _ e.symm).resolve_left (fun h => h); omega), hs.2.1.kept hg (fun e => by have := (hr _ e.symm).resolve_left (fun h => h); omega), hs.2.2.1.kept hg (fun e => by have := (hr _ e.symm).resolve_left (fun h => h); omega), hs.2.2.2.1.grown hg hs.2.2.2.1.size (fun r e => by have := (hr _ e).resolve_left (fun h => h); omega), hs.2.2.2.2⟩)
    ⟨kK, kO, kT, hBW, fun i x hi => by omega⟩
    (fun j a' W => ∃ x bx, (ofL l o)[j]? = some x ∧ W0.heap.size + 2 ≤ bx ∧ W.heap[bx]? = some (.cells #[.int .i64 x.o, .int .i64 x.f, .int .i64 x.k] 76 (0, 0)) ∧ a' = { tmps := #[Value.slice A l.length c, Value.int IntKind.i64 o, Value.int IntKind.i64 t, undef, undef, Value.pointer (some { block := w.heap.size, off := 0 }), Value.pointer (some { block := w.heap.size + 1, off := 0 }), Value.pointer (some { block := w.heap.size + 1 + 1, off := 0 }), Value.int IntKind.i64 0, .pointer (some ⟨bx, 0, none⟩), Value.slice A l.length c, Value.int IntKind.i64 0, Value.int IntKind.i64 0, Value.bool false, undef, Value.int IntKind.i64 o, Value.int IntKind.i64 t, Value.int IntKind.i64 m, Value.bool false, Value.bool false, Value.int IntKind.i64 o, Value.bool false, Value.bool false, Value.bool false, Value.int IntKind.i64 t, Value.bool false, Value.bool false, Value.slice A l.length c, Value.int IntKind.i64 o, Value.func (Fn.func 67) #[] #[Value.pointer (some { block := w1.heap.size, off := 0 }), Value.pointer (some { block := w1.heap.size + 1, off := 0 })], epV x, undef, undef, undef, undef, undef, undef, undef, undef], defers := [] })
    (fun j a' _ W W' row ⟨x, bx, hx, hbx, hcx, ha⟩ hg hr => ⟨x, bx, hx, hbx, (hg.block bx (Array.getElem?_eq_some_iff.1 hcx).1 (fun e => by have := hr _ e.symm; omega)).trans hcx, ha⟩) ?assign ?body ?done ?stop
  case assign =>
    rintro L j v W K ⟨i1, i2, i3, i4, i5⟩ hv hsz hK
    rw [List.getElem?_map] at hv
    obtain ⟨x, hx, rfl⟩ := Option.map_eq_some_iff.1 hv
    clear hv
    unfold epV
    gi_wp2
    refine hK _ _ (Kept.alloc _ _ hsz) (fun r hr => Below.heap_alloc _ _ r (by rcases hr with h | h | h <;> omega)) ⟨i1.alloc _, i2.alloc _, i3.alloc _, i4.alloc i4.size _, i5⟩ ⟨x, W.heap.size, hx, hsz, World.alloc_heap_new W _, rfl⟩
  case body =>
    rintro L j v a' W ⟨i1, i2, i3, i4, i5⟩ ⟨x, bx, hx, hbx, hcx, rfl⟩ hv hsz
    have c1 : W.cell? ⟨bx, 1, none⟩ = some (.int .i64 x.f) := by simp [World.cell?, hcx]
    have c2 : W.cell? ⟨bx, 2, none⟩ = some (.int .i64 x.k) := by simp [World.cell?, hcx]
    have c3 := i3.cell
    have c4 := i1.cell
    have c5 := i1.frozen
    have c6 := (i2.other (B' := w.heap.size + 1) (by omega) (.int .i64 x.k)).cell
    have c7 := (i2.other (B' := w.heap.size + 1) (by omega) (.int .i64 x.k)).frozen
    have H5 := Lib.hid i5
    have HX := Lib.hid hx
    clear i5 hx hv hcx
    unfold epV
    by_cases hlt : t < x.f
    · gi_wp2
      exact ⟨Kept.refl _ _, rfl, j, rfl, i1, i2, i3, i4, H5.out, fun y hy => by rw [HX.out] at hy; cases hy; exact hlt⟩
    · gi_wp2
      refine ⟨(Kept.setCell _ _ (by simp only []; omega) (by simp only []; omega)).trans (Kept.setCell _ _ (by simp only []; omega) (by simp only []; omega)), ?_, ?_, ?_, ?_, ?_, ?_⟩
      · intro r hr
        refine (Below.heap_setCell _ _ _ r ?_).trans (Below.heap_setCell _ _ _ r ?_)
        · rcases hr with h | h | h <;> simp only [] <;> omega
        · rcases hr with h | h | h <;> simp only [] <;> omega
      · have := (i1.set (.int .i64 x.k)).other (B' := w.heap.size + 2) (by omega) (.bool true)
        rw [List.take_add_one, HX.out, Option.toList_some, lastK_snoc]
        exact this
      · have := (i2.other (B' := w.heap.size + 1) (by omega) (.int .i64 x.k)).set (.bool true)
        rw [List.take_add_one, HX.out, Option.toList_some, show (!((ofL l o).take j ++ [x]).isEmpty) = true from by simp]
        exact this
      · exact (i3.other (B' := w.heap.size + 1) (by omega) (.int .i64 x.k)).other (B' := w.heap.size + 2) (by omega) (.bool true)
      · exact (i4.setCell (p := ⟨w.heap.size + 1, 0, none⟩) (by simp) _).setCell (p := ⟨w.heap.size + 2, 0, none⟩) (by simp) _
      · intro i y hi hy
        rcases Nat.lt_or_ge i j with h | h
        · exact H5.out i y h hy
        · obtain rfl : i = j := by omega
          rw [HX.out] at hy; cases hy; omega
  case done =>
    rintro W ⟨i1, i2, i3, i4, i5⟩ hsz hD
    have e1 : upTo l o t = ofL l o := by
      unfold upTo
      rw [takeWhile_take _ _ (ofL l o).length (fun i x _ hx => by simpa using i5 i x (by rw [List.length_map]; exact (List.getElem?_eq_some_iff.1 hx).1) hx) (fun x hx => by simp at hx), List.take_length]
    have e2 : keyV l o t = lastK (ofL l o) := by rw [keyV, e1]
    have e3 : okV l o t = !(ofL l o).isEmpty := by rw [okV, e1]
    rw [List.length_map, List.take_length, ← e2] at i1
    rw [List.length_map, List.take_length, ← e3] at i2
    clear i5 e1 e2 e3
    have c1 := i1.cell
    have c2 := i1.frozen
    have c3 := i2.cell
    have c4 := i2.frozen
    obtain ⟨kv, hkv⟩ : ∃ kv, keyV l o t = kv := ⟨_, rfl⟩
    obtain ⟨ov, hov⟩ : ∃ ov, okV l o t = ov := ⟨_, rfl⟩
    rw [hkv] at i1 c1
    rw [hov] at i2 c3
    have HK := Lib.hid hkv
    have HO := Lib.hid hov
    clear hkv hov
    gi_wp2
    gi_region
    gi_wp2
    have hD' : (((W.setCell ⟨w.heap.size + 1, 0, none⟩ (.int .i64 kv)).setCell ⟨w.heap.size + 1 + 1, 0, none⟩ (.bool ov)).drew).heap[W0.heap.size]? = some (.deferred (some [])) :=
      (Below.heap_setCell _ _ _ _ (by simp only []; omega)).trans ((Below.heap_setCell _ _ _ _ (by simp only []; omega)).trans hD)
    have b1 : Boxed ((W.setCell ⟨w.heap.size + 1, 0, none⟩ (.int .i64 kv)).setCell ⟨w.heap.size + 1 + 1, 0, none⟩ (.bool ov)).drew (w.heap.size + 1) 3 (.int .i64 kv) := (i1.set (.int .i64 kv)).other (B' := w.heap.size + 1 + 1) (by omega) (.bool ov)
    have b2 : Boxed ((W.setCell ⟨w.heap.size + 1, 0, none⟩ (.int .i64 kv)).setCell ⟨w.heap.size + 1 + 1, 0, none⟩ (.bool ov)).drew (w.heap.size + 1 + 1) 4 (.bool ov) := (i2.other (B' := w.heap.size + 1) (by omega) (.int .i64 kv)).set (.bool ov)
    have hBf : Below w.heap.size w ((W.setCell ⟨w.heap.size + 1, 0, none⟩ (.int .i64 kv)).setCell ⟨w.heap.size + 1 + 1, 0, none⟩ (.bool ov)).drew := ((i4.setCell (p := ⟨w.heap.size + 1, 0, none⟩) (by simp) _).setCell (p := ⟨w.heap.size + 1 + 1, 0, none⟩) (by simp; omega) _).drew
    refine ⟨by simp, .inl ⟨_, _, rfl, run_takeDeferred hD', ?_⟩⟩
    have d1 := (b1.kept (grownBy_putObj' _ W0.heap.size (.deferred none)) (by simp; omega)).cell
    have d2 := (b2.kept (grownBy_putObj' _ W0.heap.size (.deferred none)) (by simp; omega)).cell
    refine ⟨.tuple #[.int .i64 kv, .bool ov, .int .i64 0], ?_, by rw [HK.out, HO.out], ?_⟩
    · simp [results, Try.f53, go_sem, d1, d2]
    · exact hBf.grown (grownBy_putObj' _ W0.heap.size (.deferred none)) hBf.size (fun r e => by cases e; omega)
  case stop =>
    rintro cd j W hj ⟨rfl, i, hji, i1, i2, i3, i4, i5, i6⟩ hsz hD
    obtain rfl : j = i := by omega
    have e1 : upTo l o t = (ofL l o).take j := by
      unfold upTo
      rw [takeWhile_take _ _ j (fun i x hi hx => by simpa using i5 i x hi hx) (fun x hx => by simpa using i6 x hx)]
    have e2 : keyV l o t = lastK ((ofL l o).take j) := by rw [keyV, e1]
    have e3 : okV l o t = !((ofL l o).take j).isEmpty := by rw [okV, e1]
    rw [← e2] at i1
    rw [← e3] at i2
    clear i5 i6 e1 e2 e3 hji
    have c1 := i1.cell
    have c2 := i1.frozen
    have c3 := i2.cell
    have c4 := i2.frozen
    obtain ⟨kv, hkv⟩ : ∃ kv, keyV l o t = kv := ⟨_, rfl⟩
    obtain ⟨ov, hov⟩ : ∃ ov, okV l o t = ov := ⟨_, rfl⟩
    rw [hkv] at i1 c1
    rw [hov] at i2 c3
    have HK := Lib.hid hkv
    have HO := Lib.hid hov
    clear hkv hov
    gi_wp2
    gi_region
    gi_wp2
    have hD' : (((W.setCell ⟨w.heap.size + 1, 0, none⟩ (.int .i64 kv)).setCell ⟨w.heap.size + 1 + 1, 0, none⟩ (.bool ov)).drew).heap[W0.heap.size]? = some (.deferred (some [])) :=
      (Below.heap_setCell _ _ _ _ (by simp only []; omega)).trans ((Below.heap_setCell _ _ _ _ (by simp only []; omega)).trans hD)
    have b1 : Boxed ((W.setCell ⟨w.heap.size + 1, 0, none⟩ (.int .i64 kv)).setCell ⟨w.heap.size + 1 + 1, 0, none⟩ (.bool ov)).drew (w.heap.size + 1) 3 (.int .i64 kv) := (i1.set (.int .i64 kv)).other (B' := w.heap.size + 1 + 1) (by omega) (.bool ov)
    have b2 : Boxed ((W.setCell ⟨w.heap.size + 1, 0, none⟩ (.int .i64 kv)).setCell ⟨w.heap.size + 1 + 1, 0, none⟩ (.bool ov)).drew (w.heap.size + 1 + 1) 4 (.bool ov) := (i2.other (B' := w.heap.size + 1) (by omega) (.int .i64 kv)).set (.bool ov)
    have hBf : Below w.heap.size w ((W.setCell ⟨w.heap.size + 1, 0, none⟩ (.int .i64 kv)).setCell ⟨w.heap.size + 1 + 1, 0, none⟩ (.bool ov)).drew := ((i4.setCell (p := ⟨w.heap.size + 1, 0, none⟩) (by simp) _).setCell (p := ⟨w.heap.size + 1 + 1, 0, none⟩) (by simp; omega) _).drew
    refine ⟨by simp, .inl ⟨_, _, rfl, run_takeDeferred hD', ?_⟩⟩
    have d1 := (b1.kept (grownBy_putObj' _ W0.heap.size (.deferred none)) (by simp; omega)).cell
    have d2 := (b2.kept (grownBy_putObj' _ W0.heap.size (.deferred none)) (by simp; omega)).cell
    refine ⟨.tuple #[.int .i64 kv, .bool ov, .int .i64 0], ?_, by rw [HK.out, HO.out], ?_⟩
    · simp [results, Try.f53, go_sem, d1, d2]
    · exact hBf.grown (grownBy_putObj' _ W0.heap.size (.deferred none)) hBf.size (fun r e => by cases e; omega)

theorem key_any (l : List Ep) (v : Value) (o t : Int) (w : World) (B0 : Nat) (hB : B0 ≤ w.heap.size) (h : SlEp w B0 v l) :
    Calls Try.prog 53 #[v, .int .i64 o, .int .i64 t] w fun e w' => e = .returned (.tuple #[.int .i64 (keyC l o t), .bool (okK l o t), .int .i64 (keyE l o t)]) ∧ Below w.heap.size w w' := by
  unfold keyC okK keyE
  by_cases hc : chkE l = 0
  · by_cases ha : argsOK o t
    · rw [if_pos ⟨hc, ha⟩, if_pos ⟨hc, ha⟩, if_pos hc, if_pos ha]; exact key_good l v o t w B0 hB h hc ha
    · rw [if_neg (fun q => ha q.2), if_neg (fun q => ha q.2), if_pos hc, if_neg ha]; exact key_arg l v o t w B0 hB h hc ha
  · rw [if_neg (fun q => hc q.1), if_neg (fun q => hc q.1), if_neg hc]; exact key_bad l v o t w B0 hB h hc
end Go.Proofs.Ytlbnbginippjfaa
