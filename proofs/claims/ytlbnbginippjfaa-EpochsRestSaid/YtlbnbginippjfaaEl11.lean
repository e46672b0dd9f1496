import Derived.Test.YtlbnbginippjfaaEl10
set_option linter.unusedSimpArgs false
set_option linter.unusedVariables false
namespace Go.Proofs.Ytlbnbginippjfaa
open Go.RowKit Go.Shelf Fk
attribute [local go_sem] Oper.semAt_some wide_fn'
def readTo (s : Se) (k : Nat) : Tr := ⟨if 0 < k then numC s.x.b else 0, if 1 < k then numC s.y.b else 0, if 2 < k then numC s.z.b else 0⟩
theorem readTo_set (s : Se) {k : Nat} (h : k < 3) : (readTo s k).cells.set k (.int .i64 (numC (s.get k).b)) = (readTo s (k + 1)).cells := by
  rcases (show k = 0 ∨ k = 1 ∨ k = 2 by omega) with rfl | rfl | rfl <;> rfl

set_option maxRecDepth 100000 in
set_option maxHeartbeats 2000000 in
theorem read_bad (s : Se) (w : World) (hc : okS s = false) :
    Calls Try.prog 24 #[s.val] w fun e w' => e = .returned (.tuple #[(default : Tr).val, .int .i64 100]) ∧ Below w.heap.size w w' := by
  have hch := fun w => echeck_any s w
  have e3 : chS s = 100 := by unfold chS; rw [hc]; rfl
  rw [e3] at hch
  have hA : ∀ W, Below ((w.alloc (.cells s.cells.toArray 34)).alloc (.cells (default : Tr).cells.toArray 30)).heap.size ((w.alloc (.cells s.cells.toArray 34)).alloc (.cells (default : Tr).cells.toArray 30)) W →
      Row W (w.heap.size + 1) 30 (default : Tr).cells ∧ Below w.heap.size w W := fun W hb =>
    ⟨Row.keep (row_at (w := w.alloc (.cells s.cells.toArray 34)) (by simp) 30 (default : Tr).cells) (hb.block _ (by simp)), (((Below.refl _ w).alloc (Nat.le_refl _) _).alloc (by simp) _).trans (hb.mono (by simp; omega))⟩
  unfold Se.val at hch
  have HCH := Lib.hid hch
  have HA := Lib.hid hA
  clear e3 hch hA
  unfold Se.val
  go_enter Try.func24, Try.ntmps24
  go_wp2_with (go_at_call 25; refine (HCH.out _).mono ?_; rintro e w1 ⟨rfl, hb⟩; obtain ⟨ho, hb⟩ := HA.out _ hb; have ho2 : Row w1 (w.heap.size + 1) 30 [.int .i64 0, .int .i64 0, .int .i64 0] := ho; have q0 := Row.cell ho2 0; have q1 := Row.cell ho2 1; have q2 := Row.cell ho2 2; simp only [List.getElem?_cons_zero, List.getElem?_cons_succ] at q0 q1 q2; obtain ⟨f0, f1, f2⟩ := RowT.free ho)
  have h6 : Row (((w1.setCell ⟨w.heap.size + 1, 0, none⟩ (.int .i64 0)).setCell ⟨w.heap.size + 1, 1, none⟩ (.int .i64 0)).setCell ⟨w.heap.size + 1, 2, none⟩ (.int .i64 0)) (w.heap.size + 1) 30 [.int .i64 0, .int .i64 0, .int .i64 0] := Row.store (Row.store (Row.store ho2 0 _) 1 _) 2 _
  have hB6 : Below w.heap.size w (((w1.setCell ⟨w.heap.size + 1, 0, none⟩ (.int .i64 0)).setCell ⟨w.heap.size + 1, 1, none⟩ (.int .i64 0)).setCell ⟨w.heap.size + 1, 2, none⟩ (.int .i64 0)) := ((hb.setCell (by simp only []; omega) _).setCell (by simp only []; omega) _).setCell (by simp only []; omega) _
  generalize (((w1.setCell ⟨w.heap.size + 1, 0, none⟩ (.int .i64 0)).setCell ⟨w.heap.size + 1, 1, none⟩ (.int .i64 0)).setCell ⟨w.heap.size + 1, 2, none⟩ (.int .i64 0)) = W6 at *
  have p0 := Row.cell h6 0
  have p1 := Row.cell h6 1
  have p2 := Row.cell h6 2
  simp only [List.getElem?_cons_zero, List.getElem?_cons_succ] at p0 p1 p2
  exact bodyPost_ret (v := .tuple #[.agg #[.int .i64 0, .int .i64 0, .int .i64 0], .int .i64 100]) (by simp [results, Try.results24, go_sem, p0, p1, p2]) rfl ⟨rfl, hB6⟩

set_option maxRecDepth 100000 in
set_option maxHeartbeats 2000000 in
theorem read_ok (s : Se) (w : World) (hc : okS s = true) :
    Calls Try.prog 24 #[s.val] w fun e w' => e = .returned (.tuple #[(readTo s 3).val, .int .i64 0]) ∧ Below w.heap.size w w' := by
  have hch := fun w => echeck_any s w
  have e3 : chS s = 0 := by unfold chS; rw [hc]; rfl
  rw [e3] at hch
  have hA : ∀ W, Below ((w.alloc (.cells s.cells.toArray 34)).alloc (.cells (default : Tr).cells.toArray 30)).heap.size ((w.alloc (.cells s.cells.toArray 34)).alloc (.cells (default : Tr).cells.toArray 30)) W →
      RowS W w.heap.size s ∧ Row W (w.heap.size + 1) 30 (default : Tr).cells ∧ Below w.heap.size w W ∧ w.heap.size + 2 ≤ W.heap.size := fun W hb =>
    ⟨Row.keep ((Row.new w 34 s.cells).alloc _) (hb.block _ (by simp; omega)), Row.keep (row_at (w := w.alloc (.cells s.cells.toArray 34)) (by simp) 30 (default : Tr).cells) (hb.block _ (by simp)),
      (((Below.refl _ w).alloc (Nat.le_refl _) _).alloc (by simp) _).trans (hb.mono (by simp; omega)), by have := hb.size; simp at this; omega⟩
  unfold Se.val at hch
  have HCH := Lib.hid hch
  have HA := Lib.hid hA
  clear e3 hch hA
  refine (callsIn_wide (n := 3)).1 ?_
  refine callsIn_of_wp_marks Try.func24 rfl trivial ?_ rfl
  simp only [Try.ntmps24, List.size_toArray, List.length_cons, List.length_nil, Nat.reduceAdd, Nat.reduceSub, Array.replicate_succ, Array.replicate_zero, List.push_toArray, List.append_toArray, List.nil_append, List.cons_append]
  unfold Se.val
  gi_wp2_with (first
    | (gi_at_call 25; refine (callsIn_wide.2 (HCH.out _)).mono ?_; rintro e w1 ⟨rfl, hb⟩; obtain ⟨hs, ho, hb, hz1⟩ := HA.out _ hb)
    | (gi_at_call 48; refine (callsIn_wide.2 (ciphers_any _ _)).mono ?_; rintro e w' ⟨rfl, rfl⟩))
  obtain ⟨W0, hW0⟩ : ∃ W0 : World, w1.alloc (Obj.cells #[Value.pointer (some { block := w.heap.size, off := 0 })] 71) = W0 := ⟨_, rfl⟩
  have hz : W0.heap.size = w1.heap.size + 1 := by rw [← hW0]; simp
  have hR : RowS W0 w.heap.size s := by rw [← hW0]; exact Row.alloc hs _
  have hO : Row W0 (w.heap.size + 1) 30 (readTo s 0).cells := by rw [← hW0]; exact Row.alloc ho _
  have hP : Boxed W0 w1.heap.size 71 (.pointer (some ⟨w.heap.size, 0, none⟩)) := by rw [← hW0]; exact Boxed.new _ _ _
  have hBW : Below w.heap.size w W0 := by rw [← hW0]; exact hb.alloc hb.size _
  rw [hW0]
  clear hW0
  refine wpIn_rangeL (w := W0) rfl (by omega) (gf := 61) (lb := #[.pointer (some ⟨w1.heap.size, 0, none⟩)]) rfl trivial (enters_of Try.func61 (by kernel_rfl) rfl)
    (ciphers_seq w.heap.size w1.heap.size _ 2 (by omega))
    (fun W hW => (hW.block _ (by omega)).trans hP) (by omega) (fun h => h) (fun h => h)
    (fun v hv => by obtain ⟨p, _, rfl⟩ := List.mem_map.1 hv; rfl)
    (fun k W => RowS W w.heap.size s ∧ Row W (w.heap.size + 1) 30 (readTo s k).cells ∧ Below w.heap.size w W)
    (fun _ _ _ => False)
    (fun k W W' row ⟨h1, h2, h4⟩ hg hr => ⟨h1.kept hg (fun e => by have := (hr _ e.symm).resolve_left (fun h => h); omega), Row.keep h2 (hg.block _ (Row.lt h2) (fun e => by have := (hr _ e.symm).resolve_left (fun h => h); omega)), h4.grown hg h4.size (fun r e => by have := (hr _ e).resolve_left (fun h => h); omega)⟩)
    (fun _ _ _ _ _ hs _ _ => hs.elim)
    ⟨hR, hO, hBW⟩
    (fun k a' _ => k < 3 ∧ a' = { tmps := #[Value.agg #[Value.int IntKind.i64 s.x.a, Value.int IntKind.i64 s.x.b, Value.int IntKind.i64 s.y.a, Value.int IntKind.i64 s.y.b, Value.int IntKind.i64 s.z.a, Value.int IntKind.i64 s.z.b],
            Value.pointer (some { block := w.heap.size, off := 0 }), Value.pointer (some { block := w.heap.size + 1, off := 0 }), Value.int IntKind.i64 0, Value.int IntKind.i64 0,
            .int .i64 (k : Int), .pointer (some ⟨w.heap.size, k * 2, none⟩), Value.agg #[Value.int IntKind.i64 s.x.a, Value.int IntKind.i64 s.x.b, Value.int IntKind.i64 s.y.a, Value.int IntKind.i64 s.y.b, Value.int IntKind.i64 s.z.a, Value.int IntKind.i64 s.z.b],
            Value.int IntKind.i64 0, Value.int IntKind.i64 0, Value.bool false, undef, undef,
            Value.func (Fn.func 61) #[] #[Value.pointer (some { block := w1.heap.size, off := 0 })], .int .i64 (k : Int), .pointer (some ⟨w.heap.size, k * 2, none⟩),
            undef, undef, undef, undef, undef, undef, undef, undef, undef, undef, undef], defers := [] })
    (fun _ _ _ _ _ _ hs _ _ => hs) ?assign ?body ?done ?stop
  case assign =>
    intro l k v W K hI hv hsz hK
    obtain ⟨hk, rfl⟩ := ciVals_some hv
    clear hv
    unfold ciV
    gi_wp2
    exact hK _ _ (Kept.refl _ _) (SameOn.refl _ _) hI ⟨hk, rfl⟩
  case body =>
    rintro l k v a' W ⟨h1, h2, h4⟩ ⟨hk, rfl⟩ hv hsz
    have c2 := h1.cb hk
    have f1 := Row.frozen h2 k
    have hst := readTo_set s hk
    have hn := fun w => number_any (s.get k).b w
    obtain ⟨x, hx⟩ : ∃ x, numC (s.get k).b = x := ⟨_, rfl⟩
    rw [hx] at hst hn
    generalize numE (s.get k).b = y at hn
    have hbx : ∃ v, W.cell? ⟨w.heap.size + 1, k, none⟩ = some v := by
      rw [Row.cell h2]
      rcases (show k = 0 ∨ k = 1 ∨ k = 2 by omega) with rfl | rfl | rfl <;> exact ⟨_, rfl⟩
    obtain ⟨v0, c3⟩ := hbx
    generalize (s.get k).b = bb at c2 hn
    have HST := Lib.hid hst
    have HN := Lib.hid hn
    have s5 : (0 : Int) ≤ k := by omega
    have s6 : (k : Int) < 3 := by omega
    clear hv hst hn hx
    gi_wp2_with (gi_at_call 49; refine (callsIn_wide.2 (HN.out _)).mono ?_; rintro e w' ⟨rfl, rfl⟩)
    refine ⟨Kept.setCell _ _ (by simp only []; omega) (by simp only []; omega), ?_, Row.other h1 (p := ⟨w.heap.size + 1, k, none⟩) (by simp only []; omega) _, ?_, h4.setCell (p := ⟨w.heap.size + 1, k, none⟩) (by simp only []; omega) _⟩
    · intro r hr
      have : r = w1.heap.size := hr
      exact Below.heap_setCell _ _ _ r (by simp only []; omega)
    · have := Row.store h2 k (.int .i64 x)
      rw [HST.out] at this
      exact this
  case done =>
    rintro W ⟨h1, h2, h4⟩ hsz hD
    rw [ciVals_length] at h2
    obtain ⟨t, ht⟩ : ∃ t, readTo s 3 = t := ⟨_, rfl⟩
    rw [ht] at h2
    have HT := Lib.hid ht
    clear ht
    obtain ⟨c0, c1, c2⟩ := RowT.three h2
    obtain ⟨f0, f1, f2⟩ := RowT.free h2
    gi_wp2
    have h6 : Row (((W.setCell ⟨w.heap.size + 1, 0, none⟩ (.int .i64 t.p)).setCell ⟨w.heap.size + 1, 1, none⟩ (.int .i64 t.q)).setCell ⟨w.heap.size + 1, 2, none⟩ (.int .i64 t.r)) (w.heap.size + 1) 30 t.cells := Row.store (Row.store (Row.store h2 0 _) 1 _) 2 _
    have hB6 : Below w.heap.size w (((W.setCell ⟨w.heap.size + 1, 0, none⟩ (.int .i64 t.p)).setCell ⟨w.heap.size + 1, 1, none⟩ (.int .i64 t.q)).setCell ⟨w.heap.size + 1, 2, none⟩ (.int .i64 t.r)) := ((h4.setCell (by simp only []; omega) _).setCell (by simp only []; omega) _).setCell (by simp only []; omega) _
    have hD6 : (((W.setCell ⟨w.heap.size + 1, 0, none⟩ (.int .i64 t.p)).setCell ⟨w.heap.size + 1, 1, none⟩ (.int .i64 t.q)).setCell ⟨w.heap.size + 1, 2, none⟩ (.int .i64 t.r)).heap[W0.heap.size]? = some (.deferred (some [])) := by
      refine (Below.heap_setCell _ _ _ _ ?_).trans ((Below.heap_setCell _ _ _ _ ?_).trans ((Below.heap_setCell _ _ _ _ ?_).trans hD)) <;> (simp only []; omega)
    generalize (((W.setCell ⟨w.heap.size + 1, 0, none⟩ (.int .i64 t.p)).setCell ⟨w.heap.size + 1, 1, none⟩ (.int .i64 t.q)).setCell ⟨w.heap.size + 1, 2, none⟩ (.int .i64 t.r)) = W6 at *
    refine ⟨by simp, .inl ⟨_, _, rfl, run_takeDeferred hD6, ?_⟩⟩
    have h7 := Row.keep h6 ((grownBy_putObj' W6 W0.heap.size (.deferred none)).block _ (Row.lt h6) (by simp; omega))
    obtain ⟨d0, d1, d2⟩ := RowT.three h7
    refine ⟨.tuple #[t.val, .int .i64 0], ?_, by rw [HT.out], ?_⟩
    · simp [results, Try.f24, go_sem, d0, d1, d2, Tr.val]
    · exact hB6.grown (grownBy_putObj' _ W0.heap.size (.deferred none)) hB6.size (fun r e => by cases e; omega)
  case stop =>
    rintro c k W _ h _ _
    exact h.elim
theorem read_any (s : Se) (w : World) :
    Calls Try.prog 24 #[s.val] w fun e w' => e = .returned (.tuple #[(readC s).val, .int .i64 (chS s)]) ∧ Below w.heap.size w w' := by
  cases hc : okS s with
  | false =>
    have e1 : readC s = default := by unfold readC; rw [hc]; rfl
    have e2 : chS s = 100 := by unfold chS; rw [hc]; rfl
    rw [e1, e2]; exact read_bad s w hc
  | true =>
    have e1 : readC s = readTo s 3 := by unfold readC; rw [hc]; rfl
    have e2 : chS s = 0 := by unfold chS; rw [hc]; rfl
    rw [e1, e2]; exact read_ok s w hc
end Go.Proofs.Ytlbnbginippjfaa
