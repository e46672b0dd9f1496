import Derived.Test.YtlbnbginippjfaaEl6
set_option linter.unusedSimpArgs false
namespace Go.Proofs.Ytlbnbginippjfaa
open Go.RowKit Go.Shelf Fk
attribute [local go_sem] Oper.semAt_some wide_fn'
def inR (s : Se) : Prop := ∀ k, k < 3 → (0 ≤ (s.get k).a ∧ (s.get k).a < 2147483579) ∧ (0 ≤ (s.get k).b ∧ (s.get k).b < 2147483579)
theorem Se.val_eq (s : Se) : s.val = .agg s.cells.toArray := rfl

set_option maxRecDepth 100000 in
set_option maxHeartbeats 2000000 in
theorem changed_more (s : Se) (key : Int) (r : Tr) (br bk ab : Nat) (w : World) (hs : inR s) (hr : Row w br 29 r.cells) (hkey : Boxed w bk 3 (.int .i64 key))
    (hab : Boxed w ab 63 (.func (.func 60) #[] #[.pointer (some ⟨br, 0, none⟩), .pointer (some ⟨bk, 0, none⟩)])) :
    Calls Try.prog 40 #[s.val, .slice (some ⟨ab, 0, none⟩) 1 1] w fun e w' => e = .returned (s.map (moreC key r)).val ∧ Below w.heap.size w w' := by
  have hlr := Row.lt hr
  have hlk := Boxed.lt hkey
  have hla := Boxed.lt hab
  refine (callsIn_wide (n := 3)).1 ?_
  refine callsIn_of_wp_marks Try.func40 rfl trivial ?_ rfl
  simp only [Try.ntmps40, List.size_toArray, List.length_cons, List.length_nil, Nat.reduceAdd, Nat.reduceSub, Array.replicate_succ, Array.replicate_zero, List.push_toArray, List.append_toArray, List.nil_append, List.cons_append]
  unfold Se.val
  gi_wp2_with (gi_at_call 48; refine (callsIn_wide.2 (ciphers_any _ _)).mono ?_; rintro e w' ⟨rfl, rfl⟩)
  obtain ⟨W0, hW0⟩ : ∃ W0 : World, ((((w.alloc (Obj.cells #[Value.int IntKind.i64 s.x.a, Value.int IntKind.i64 s.x.b, Value.int IntKind.i64 s.y.a, Value.int IntKind.i64 s.y.b, Value.int IntKind.i64 s.z.a, Value.int IntKind.i64 s.z.b] 34)).alloc
        (Obj.cells #[Value.slice (some { block := ab, off := 0 }) 1 1] 89)).alloc
        (Obj.cells #[Value.int IntKind.i64 0, Value.int IntKind.i64 0, Value.int IntKind.i64 0, Value.int IntKind.i64 0, Value.int IntKind.i64 0, Value.int IntKind.i64 0] 34)).alloc
        (Obj.cells #[Value.pointer (some { block := w.heap.size, off := 0 })] 71)) = W0 := ⟨_, rfl⟩
  have hz : W0.heap.size = w.heap.size + 4 := by rw [← hW0]; simp
  have hR : RowS W0 w.heap.size s := by rw [← hW0]; exact (((Row.new w 34 s.cells).alloc _).alloc _).alloc _
  have hY : Boxed W0 (w.heap.size + 1) 89 (.slice (some ⟨ab, 0, none⟩) 1 1) := by rw [← hW0]; exact ((boxed_at (by simp) _ _).alloc _).alloc _
  have hO : RowS W0 (w.heap.size + 2) default := by rw [← hW0]; exact (row_at (by simp) _ (default : Se).cells).alloc _
  have hP : Boxed W0 (w.heap.size + 3) 71 (.pointer (some ⟨w.heap.size, 0, none⟩)) := by rw [← hW0]; exact boxed_at (by simp) _ _
  have hBW : Below w.heap.size w W0 := by rw [← hW0]; exact ((((Below.refl _ w).alloc (Nat.le_refl _) _).alloc (by simp) _).alloc (by simp; omega) _).alloc (by simp; omega) _
  rw [hW0]
  clear hW0
  refine wpIn_rangeL (w := W0) rfl (by omega) (gf := 61) (lb := #[.pointer (some ⟨w.heap.size + 3, 0, none⟩)]) rfl trivial (enters_of Try.func61 (by kernel_rfl) rfl)
    (ciphers_seq w.heap.size (w.heap.size + 3) _ 2 (by omega))
    (fun W hW => (hW.block _ (by omega)).trans hP) (by omega) (fun h => h) (fun h => h)
    (fun v hv => by obtain ⟨p, _, rfl⟩ := List.mem_map.1 hv; rfl)
    (fun k W => RowS W w.heap.size (s.mapTo (moreC key r) k) ∧ Boxed W (w.heap.size + 1) 89 (.slice (some ⟨ab, 0, none⟩) 1 1) ∧ RowS W (w.heap.size + 2) default ∧ Below w.heap.size w W)
    (fun _ _ _ => False)
    (fun k W W' row ⟨h1, h2, h3, h4⟩ hg hr => ⟨h1.kept hg (fun e => by have := (hr _ e.symm).resolve_left (fun h => h); omega), h2.kept hg (fun e => by have := (hr _ e.symm).resolve_left (fun h => h); omega), h3.kept hg (fun e => by have := (hr _ e.symm).resolve_left (fun h => h); omega), h4.grown hg h4.size (fun r e => by have := (hr _ e).resolve_left (fun h => h); omega)⟩)
    (fun _ _ _ _ _ hs _ _ => hs.elim)
    ⟨hR, hY, hO, hBW⟩
    (fun k a' _ => k < 3 ∧ a' = { tmps := #[Value.agg #[Value.int IntKind.i64 s.x.a, Value.int IntKind.i64 s.x.b, Value.int IntKind.i64 s.y.a, Value.int IntKind.i64 s.y.b, Value.int IntKind.i64 s.z.a, Value.int IntKind.i64 s.z.b],
            Value.slice (some { block := ab, off := 0 }) 1 1, Value.pointer (some { block := w.heap.size, off := 0 }),
            Value.pointer (some { block := w.heap.size + 1, off := 0 }),
            Value.pointer (some { block := w.heap.size + 1 + 1, off := 0 }), .int .i64 (k : Int), .pointer (some ⟨w.heap.size, k * 2, none⟩), undef, undef,
            Value.func (Fn.func 61) #[] #[Value.pointer (some { block := w.heap.size + 1 + 1 + 1, off := 0 })], .int .i64 (k : Int), .pointer (some ⟨w.heap.size, k * 2, none⟩),
            undef, undef, undef, undef, undef, undef, undef, undef, undef, undef, undef, undef], defers := [] })
    (fun _ _ _ _ _ _ hs _ _ => hs) ?assign ?body ?done ?stop
  case assign =>
    intro l k v W K hI hv hsz hK
    obtain ⟨hk, rfl⟩ := ciVals_some hv
    clear hv
    unfold ciV
    gi_wp2
    exact hK _ _ (Kept.refl _ _) (SameOn.refl _ _) hI ⟨hk, rfl⟩
  case body =>
    rintro l k v a' W ⟨h1, h2, h3, h4⟩ ⟨hk, rfl⟩ hv hsz
    have c1 := h2.cell
    have c2 : W.cell? ⟨ab, 0, none⟩ = some (.func (.func 60) #[] #[.pointer (some ⟨br, 0, none⟩), .pointer (some ⟨bk, 0, none⟩)]) := Boxed.cell (show Boxed W ab _ _ from (h4.block ab hla).trans hab)
    have hr' : Row W br 29 r.cells := Row.keep hr (h4.block br hlr)
    have hk' : Boxed W bk 3 (.int .i64 key) := (h4.block bk hlk).trans hkey
    have hg := mapTo_get (moreC key r) s hk
    have hst := mapTo_set (moreC key r) s hk
    obtain ⟨i1, i2⟩ := hs k hk
    rw [← hg] at i1 i2 hst
    have hcall := more_in k hk (s.mapTo (moreC key r) k) r key w.heap.size br bk W h1 hr' hk' i1 i2
    rw [hst] at hcall
    have HC := Lib.hid hcall
    clear hcall hg hst hr' hk' i1 i2 hv
    gi_wp2
    refine wpIn_loop_rounds 2 ?_
    rw [roundsIn_succ]
    gi_wp2_with (gi_at_call 60; refine (callsIn_wide.2 HC.out).mono ?_; rintro e w' ⟨⟨v', rfl⟩, hr1, hr2⟩)
    rw [roundsIn_succ]
    gi_wp2
    refine ⟨Kept.grown hr2 (by omega) (by simp; omega) (by simp; omega), ?_, hr1, h2.kept hr2 (by simp), h3.kept hr2 (by simp), h4.grown hr2 h4.size (fun r e => by cases e; exact Nat.le_refl _)⟩
    intro rr hrr
    have h5 : rr = w.heap.size + 3 := hrr
    subst h5
    exact hr2.block _ (by omega) (by simp)
  case done =>
    rintro W ⟨h1, h2, h3, h4⟩ hsz hD
    rw [ciVals_length, Se.mapTo_three] at h1
    obtain ⟨t, ht⟩ : ∃ t, s.map (moreC key r) = t := ⟨_, rfl⟩
    rw [ht] at h1
    have HT := Lib.hid ht
    clear ht
    have c0 := Row.cell h1 0
    have c1 := Row.cell h1 1
    have c2 := Row.cell h1 2
    have c3 := Row.cell h1 3
    have c4 := Row.cell h1 4
    have c5 := Row.cell h1 5
    have f0 := Row.frozen h3 0
    have f1 := Row.frozen h3 1
    have f2 := Row.frozen h3 2
    have f3 := Row.frozen h3 3
    have f4 := Row.frozen h3 4
    have f5 := Row.frozen h3 5
    have e0 := Row.cell h3 0
    have e1 := Row.cell h3 1
    have e2 := Row.cell h3 2
    have e3 := Row.cell h3 3
    have e4 := Row.cell h3 4
    have e5 := Row.cell h3 5
    simp only [Se.cells, List.getElem?_cons_zero, List.getElem?_cons_succ] at c0 c1 c2 c3 c4 c5 e0 e1 e2 e3 e4 e5
    gi_wp2
    have h6 : RowS ((((((W.setCell ⟨w.heap.size + 1 + 1, 0, none⟩ (.int .i64 t.x.a)).setCell ⟨w.heap.size + 1 + 1, 1, none⟩ (.int .i64 t.x.b)).setCell ⟨w.heap.size + 1 + 1, 2, none⟩ (.int .i64 t.y.a)).setCell ⟨w.heap.size + 1 + 1, 3, none⟩ (.int .i64 t.y.b)).setCell ⟨w.heap.size + 1 + 1, 4, none⟩ (.int .i64 t.z.a)).setCell ⟨w.heap.size + 1 + 1, 5, none⟩ (.int .i64 t.z.b)) (w.heap.size + 1 + 1) t :=
      Row.store (Row.store (Row.store (Row.store (Row.store (Row.store h3 0 _) 1 _) 2 _) 3 _) 4 _) 5 _
    have hB6 : Below w.heap.size w ((((((W.setCell ⟨w.heap.size + 1 + 1, 0, none⟩ (.int .i64 t.x.a)).setCell ⟨w.heap.size + 1 + 1, 1, none⟩ (.int .i64 t.x.b)).setCell ⟨w.heap.size + 1 + 1, 2, none⟩ (.int .i64 t.y.a)).setCell ⟨w.heap.size + 1 + 1, 3, none⟩ (.int .i64 t.y.b)).setCell ⟨w.heap.size + 1 + 1, 4, none⟩ (.int .i64 t.z.a)).setCell ⟨w.heap.size + 1 + 1, 5, none⟩ (.int .i64 t.z.b)) :=
      (((((h4.setCell (by simp only []; omega) _).setCell (by simp only []; omega) _).setCell (by simp only []; omega) _).setCell (by simp only []; omega) _).setCell (by simp only []; omega) _).setCell (by simp only []; omega) _
    have hD6 : ((((((W.setCell ⟨w.heap.size + 1 + 1, 0, none⟩ (.int .i64 t.x.a)).setCell ⟨w.heap.size + 1 + 1, 1, none⟩ (.int .i64 t.x.b)).setCell ⟨w.heap.size + 1 + 1, 2, none⟩ (.int .i64 t.y.a)).setCell ⟨w.heap.size + 1 + 1, 3, none⟩ (.int .i64 t.y.b)).setCell ⟨w.heap.size + 1 + 1, 4, none⟩ (.int .i64 t.z.a)).setCell ⟨w.heap.size + 1 + 1, 5, none⟩ (.int .i64 t.z.b)).heap[W0.heap.size]? = some (.deferred (some [])) := by
      refine (Below.heap_setCell _ _ _ _ ?_).trans ((Below.heap_setCell _ _ _ _ ?_).trans ((Below.heap_setCell _ _ _ _ ?_).trans ((Below.heap_setCell _ _ _ _ ?_).trans ((Below.heap_setCell _ _ _ _ ?_).trans ((Below.heap_setCell _ _ _ _ ?_).trans hD))))) <;> (simp only []; omega)
    generalize ((((((W.setCell ⟨w.heap.size + 1 + 1, 0, none⟩ (.int .i64 t.x.a)).setCell ⟨w.heap.size + 1 + 1, 1, none⟩ (.int .i64 t.x.b)).setCell ⟨w.heap.size + 1 + 1, 2, none⟩ (.int .i64 t.y.a)).setCell ⟨w.heap.size + 1 + 1, 3, none⟩ (.int .i64 t.y.b)).setCell ⟨w.heap.size + 1 + 1, 4, none⟩ (.int .i64 t.z.a)).setCell ⟨w.heap.size + 1 + 1, 5, none⟩ (.int .i64 t.z.b)) = W6 at *
    refine ⟨by simp, .inl ⟨_, _, rfl, run_takeDeferred hD6, ?_⟩⟩
    have h7 := h6.kept (grownBy_putObj' _ W0.heap.size (.deferred none)) (by simp; omega)
    have d0 := Row.cell h7 0
    have d1 := Row.cell h7 1
    have d2 := Row.cell h7 2
    have d3 := Row.cell h7 3
    have d4 := Row.cell h7 4
    have d5 := Row.cell h7 5
    simp only [Se.cells, List.getElem?_cons_zero, List.getElem?_cons_succ] at d0 d1 d2 d3 d4 d5
    refine ⟨t.val, ?_, by rw [HT.out]; rfl, ?_⟩
    · simp [results, Try.f40, go_sem, d0, d1, d2, d3, d4, d5, Se.val]
    · exact hB6.grown (grownBy_putObj' _ W0.heap.size (.deferred none)) hB6.size (fun r e => by cases e; omega)
  case stop =>
    rintro c k W _ h _ _
    exact h.elim
set_option maxRecDepth 100000 in
set_option maxHeartbeats 2000000 in
theorem changed_strip (s : Se) (n : Int) (bn ab : Nat) (w : World) (hs : inR s) (hn1 : 1 ≤ n) (hn2 : n < 1073741789) (hn : Boxed w bn 3 (.int .i64 n))
    (hab : Boxed w ab 63 (.func (.func 45) #[] #[.pointer (some ⟨bn, 0, none⟩)])) :
    Calls Try.prog 40 #[s.val, .slice (some ⟨ab, 0, none⟩) 1 1] w fun e w' => e = .returned (s.map (stripC n)).val ∧ Below w.heap.size w w' := by
  have hlk := Boxed.lt hn
  have hla := Boxed.lt hab
  refine (callsIn_wide (n := 3)).1 ?_
  refine callsIn_of_wp_marks Try.func40 rfl trivial ?_ rfl
  simp only [Try.ntmps40, List.size_toArray, List.length_cons, List.length_nil, Nat.reduceAdd, Nat.reduceSub, Array.replicate_succ, Array.replicate_zero, List.push_toArray, List.append_toArray, List.nil_append, List.cons_append]
  unfold Se.val
  gi_wp2_with (gi_at_call 48; refine (callsIn_wide.2 (ciphers_any _ _)).mono ?_; rintro e w' ⟨rfl, rfl⟩)
  obtain ⟨W0, hW0⟩ : ∃ W0 : World, ((((w.alloc (Obj.cells #[Value.int IntKind.i64 s.x.a, Value.int IntKind.i64 s.x.b, Value.int IntKind.i64 s.y.a, Value.int IntKind.i64 s.y.b, Value.int IntKind.i64 s.z.a, Value.int IntKind.i64 s.z.b] 34)).alloc
        (Obj.cells #[Value.slice (some { block := ab, off := 0 }) 1 1] 89)).alloc
        (Obj.cells #[Value.int IntKind.i64 0, Value.int IntKind.i64 0, Value.int IntKind.i64 0, Value.int IntKind.i64 0, Value.int IntKind.i64 0, Value.int IntKind.i64 0] 34)).alloc
        (Obj.cells #[Value.pointer (some { block := w.heap.size, off := 0 })] 71)) = W0 := ⟨_, rfl⟩
  have hz : W0.heap.size = w.heap.size + 4 := by rw [← hW0]; simp
  have hR : RowS W0 w.heap.size s := by rw [← hW0]; exact (((Row.new w 34 s.cells).alloc _).alloc _).alloc _
  have hY : Boxed W0 (w.heap.size + 1) 89 (.slice (some ⟨ab, 0, none⟩) 1 1) := by rw [← hW0]; exact ((boxed_at (by simp) _ _).alloc _).alloc _
  have hO : RowS W0 (w.heap.size + 2) default := by rw [← hW0]; exact (row_at (by simp) _ (default : Se).cells).alloc _
  have hP : Boxed W0 (w.heap.size + 3) 71 (.pointer (some ⟨w.heap.size, 0, none⟩)) := by rw [← hW0]; exact boxed_at (by simp) _ _
  have hBW : Below w.heap.size w W0 := by rw [← hW0]; exact ((((Below.refl _ w).alloc (Nat.le_refl _) _).alloc (by simp) _).alloc (by simp; omega) _).alloc (by simp; omega) _
  rw [hW0]
  clear hW0
  refine wpIn_rangeL (w := W0) rfl (by omega) (gf := 61) (lb := #[.pointer (some ⟨w.heap.size + 3, 0, none⟩)]) rfl trivial (enters_of Try.func61 (by kernel_rfl) rfl)
    (ciphers_seq w.heap.size (w.heap.size + 3) _ 2 (by omega))
    (fun W hW => (hW.block _ (by omega)).trans hP) (by omega) (fun h => h) (fun h => h)
    (fun v hv => by obtain ⟨p, _, rfl⟩ := List.mem_map.1 hv; rfl)
    (fun k W => RowS W w.heap.size (s.mapTo (stripC n) k) ∧ Boxed W (w.heap.size + 1) 89 (.slice (some ⟨ab, 0, none⟩) 1 1) ∧ RowS W (w.heap.size + 2) default ∧ Below w.heap.size w W)
    (fun _ _ _ => False)
    (fun k W W' row ⟨h1, h2, h3, h4⟩ hg hr => ⟨h1.kept hg (fun e => by have := (hr _ e.symm).resolve_left (fun h => h); omega), h2.kept hg (fun e => by have := (hr _ e.symm).resolve_left (fun h => h); omega), h3.kept hg (fun e => by have := (hr _ e.symm).resolve_left (fun h => h); omega), h4.grown hg h4.size (fun r e => by have := (hr _ e).resolve_left (fun h => h); omega)⟩)
    (fun _ _ _ _ _ hs _ _ => hs.elim)
    ⟨hR, hY, hO, hBW⟩
    (fun k a' _ => k < 3 ∧ a' = { tmps := #[Value.agg #[Value.int IntKind.i64 s.x.a, Value.int IntKind.i64 s.x.b, Value.int IntKind.i64 s.y.a, Value.int IntKind.i64 s.y.b, Value.int IntKind.i64 s.z.a, Value.int IntKind.i64 s.z.b],
            Value.slice (some { block := ab, off := 0 }) 1 1, Value.pointer (some { block := w.heap.size, off := 0 }),
            Value.pointer (some { block := w.heap.size + 1, off := 0 }),
            Value.pointer (some { block := w.heap.size + 1 + 1, off := 0 }), .int .i64 (k : Int), .pointer (some ⟨w.heap.size, k * 2, none⟩), undef, undef,
            Value.func (Fn.func 61) #[] #[Value.pointer (some { block := w.heap.size + 1 + 1 + 1, off := 0 })], .int .i64 (k : Int), .pointer (some ⟨w.heap.size, k * 2, none⟩),
            undef, undef, undef, undef, undef, undef, undef, undef, undef, undef, undef, undef], defers := [] })
    (fun _ _ _ _ _ _ hs _ _ => hs) ?assign ?body ?done ?stop
  case assign =>
    intro l k v W K hI hv hsz hK
    obtain ⟨hk, rfl⟩ := ciVals_some hv
    clear hv
    unfold ciV
    gi_wp2
    exact hK _ _ (Kept.refl _ _) (SameOn.refl _ _) hI ⟨hk, rfl⟩
  case body =>
    rintro l k v a' W ⟨h1, h2, h3, h4⟩ ⟨hk, rfl⟩ hv hsz
    have c1 := h2.cell
    have c2 : W.cell? ⟨ab, 0, none⟩ = some (.func (.func 45) #[] #[.pointer (some ⟨bn, 0, none⟩)]) := Boxed.cell (show Boxed W ab _ _ from (h4.block ab hla).trans hab)
    have hk' : Boxed W bn 3 (.int .i64 n) := (h4.block bn hlk).trans hn
    have hg := mapTo_get (stripC n) s hk
    have hst := mapTo_set (stripC n) s hk
    obtain ⟨i1, i2⟩ := hs k hk
    rw [← hg] at i1 i2 hst
    have hcall := strip_in k hk (s.mapTo (stripC n) k) n w.heap.size bn W h1 hk' hn1 hn2 i1 i2
    rw [hst] at hcall
    have HC := Lib.hid hcall
    clear hcall hg hst hk' i1 i2 hv
    gi_wp2
    refine wpIn_loop_rounds 2 ?_
    rw [roundsIn_succ]
    gi_wp2_with (gi_at_call 45; refine (callsIn_wide.2 HC.out).mono ?_; rintro e w' ⟨⟨v', rfl⟩, hr1, hr2⟩)
    rw [roundsIn_succ]
    gi_wp2
    refine ⟨Kept.grown hr2 (by omega) (by simp; omega) (by simp; omega), ?_, hr1, h2.kept hr2 (by simp), h3.kept hr2 (by simp), h4.grown hr2 h4.size (fun r e => by cases e; exact Nat.le_refl _)⟩
    intro rr hrr
    have h5 : rr = w.heap.size + 3 := hrr
    subst h5
    exact hr2.block _ (by omega) (by simp)
  case done =>
    rintro W ⟨h1, h2, h3, h4⟩ hsz hD
    rw [ciVals_length, Se.mapTo_three] at h1
    obtain ⟨t, ht⟩ : ∃ t, s.map (stripC n) = t := ⟨_, rfl⟩
    rw [ht] at h1
    have HT := Lib.hid ht
    clear ht
    have c0 := Row.cell h1 0
    have c1 := Row.cell h1 1
    have c2 := Row.cell h1 2
    have c3 := Row.cell h1 3
    have c4 := Row.cell h1 4
    have c5 := Row.cell h1 5
    have f0 := Row.frozen h3 0
    have f1 := Row.frozen h3 1
    have f2 := Row.frozen h3 2
    have f3 := Row.frozen h3 3
    have f4 := Row.frozen h3 4
    have f5 := Row.frozen h3 5
    have e0 := Row.cell h3 0
    have e1 := Row.cell h3 1
    have e2 := Row.cell h3 2
    have e3 := Row.cell h3 3
    have e4 := Row.cell h3 4
    have e5 := Row.cell h3 5
    simp only [Se.cells, List.getElem?_cons_zero, List.getElem?_cons_succ] at c0 c1 c2 c3 c4 c5 e0 e1 e2 e3 e4 e5
    gi_wp2
    have h6 : RowS ((((((W.setCell ⟨w.heap.size + 1 + 1, 0, none⟩ (.int .i64 t.x.a)).setCell ⟨w.heap.size + 1 + 1, 1, none⟩ (.int .i64 t.x.b)).setCell ⟨w.heap.size + 1 + 1, 2, none⟩ (.int .i64 t.y.a)).setCell ⟨w.heap.size + 1 + 1, 3, none⟩ (.int .i64 t.y.b)).setCell ⟨w.heap.size + 1 + 1, 4, none⟩ (.int .i64 t.z.a)).setCell ⟨w.heap.size + 1 + 1, 5, none⟩ (.int .i64 t.z.b)) (w.heap.size + 1 + 1) t :=
      Row.store (Row.store (Row.store (Row.store (Row.store (Row.store h3 0 _) 1 _) 2 _) 3 _) 4 _) 5 _
    have hB6 : Below w.heap.size w ((((((W.setCell ⟨w.heap.size + 1 + 1, 0, none⟩ (.int .i64 t.x.a)).setCell ⟨w.heap.size + 1 + 1, 1, none⟩ (.int .i64 t.x.b)).setCell ⟨w.heap.size + 1 + 1, 2, none⟩ (.int .i64 t.y.a)).setCell ⟨w.heap.size + 1 + 1, 3, none⟩ (.int .i64 t.y.b)).setCell ⟨w.heap.size + 1 + 1, 4, none⟩ (.int .i64 t.z.a)).setCell ⟨w.heap.size + 1 + 1, 5, none⟩ (.int .i64 t.z.b)) :=
      (((((h4.setCell (by simp only []; omega) _).setCell (by simp only []; omega) _).setCell (by simp only []; omega) _).setCell (by simp only []; omega) _).setCell (by simp only []; omega) _).setCell (by simp only []; omega) _
    have hD6 : ((((((W.setCell ⟨w.heap.size + 1 + 1, 0, none⟩ (.int .i64 t.x.a)).setCell ⟨w.heap.size + 1 + 1, 1, none⟩ (.int .i64 t.x.b)).setCell ⟨w.heap.size + 1 + 1, 2, none⟩ (.int .i64 t.y.a)).setCell ⟨w.heap.size + 1 + 1, 3, none⟩ (.int .i64 t.y.b)).setCell ⟨w.heap.size + 1 + 1, 4, none⟩ (.int .i64 t.z.a)).setCell ⟨w.heap.size + 1 + 1, 5, none⟩ (.int .i64 t.z.b)).heap[W0.heap.size]? = some (.deferred (some [])) := by
      refine (Below.heap_setCell _ _ _ _ ?_).trans ((Below.heap_setCell _ _ _ _ ?_).trans ((Below.heap_setCell _ _ _ _ ?_).trans ((Below.heap_setCell _ _ _ _ ?_).trans ((Below.heap_setCell _ _ _ _ ?_).trans ((Below.heap_setCell _ _ _ _ ?_).trans hD))))) <;> (simp only []; omega)
    generalize ((((((W.setCell ⟨w.heap.size + 1 + 1, 0, none⟩ (.int .i64 t.x.a)).setCell ⟨w.heap.size + 1 + 1, 1, none⟩ (.int .i64 t.x.b)).setCell ⟨w.heap.size + 1 + 1, 2, none⟩ (.int .i64 t.y.a)).setCell ⟨w.heap.size + 1 + 1, 3, none⟩ (.int .i64 t.y.b)).setCell ⟨w.heap.size + 1 + 1, 4, none⟩ (.int .i64 t.z.a)).setCell ⟨w.heap.size + 1 + 1, 5, none⟩ (.int .i64 t.z.b)) = W6 at *
    refine ⟨by simp, .inl ⟨_, _, rfl, run_takeDeferred hD6, ?_⟩⟩
    have h7 := h6.kept (grownBy_putObj' _ W0.heap.size (.deferred none)) (by simp; omega)
    have d0 := Row.cell h7 0
    have d1 := Row.cell h7 1
    have d2 := Row.cell h7 2
    have d3 := Row.cell h7 3
    have d4 := Row.cell h7 4
    have d5 := Row.cell h7 5
    simp only [Se.cells, List.getElem?_cons_zero, List.getElem?_cons_succ] at d0 d1 d2 d3 d4 d5
    refine ⟨t.val, ?_, by rw [HT.out]; rfl, ?_⟩
    · simp [results, Try.f40, go_sem, d0, d1, d2, d3, d4, d5, Se.val]
    · exact hB6.grown (grownBy_putObj' _ W0.heap.size (.deferred none)) hB6.size (fun r e => by cases e; omega)
  case stop =>
    rintro c k W _ h _ _
    exact h.elim
end Go.Proofs.Ytlbnbginippjfaa
