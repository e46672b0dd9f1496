import Derived.Test.YtlbnbginippjfaaEl3
namespace Go.Proofs.Ytlbnbginippjfaa
open Go.RowKit Go.Shelf Fk
attribute [local go_sem] Oper.semAt_some
theorem wide_fn (f : FuncId) : Fence.wide.fn f = True := rfl
attribute [local go_sem] wide_fn

theorem boxed_at {w : World} {n : Nat} (h : w.heap.size = n) (t : TypeId) (v : Value) : Boxed (w.alloc (.cells #[v] t)) n t v := h ▸ Boxed.new w t v
theorem row_at {w : World} {n : Nat} (h : w.heap.size = n) (t : TypeId) (vs : List Value) : Row (w.alloc (.cells vs.toArray t)) n t vs := h ▸ Row.new w t vs
/-- six cells of a letter -/
def RowS (W : World) (b : Nat) (s : Se) : Prop := Row W b 34 s.cells
theorem RowS.ca {W : World} {b : Nat} {s : Se} (h : RowS W b s) {k : Nat} (hk : k < 3) : W.cell? ⟨b, k * 2, none⟩ = some (.int .i64 (s.get k).a) := by
  rw [Row.cell h]
  rcases (show k = 0 ∨ k = 1 ∨ k = 2 by omega) with rfl | rfl | rfl <;> rfl
theorem RowS.cb {W : World} {b : Nat} {s : Se} (h : RowS W b s) {k : Nat} (hk : k < 3) : W.cell? ⟨b, k * 2 + 1, none⟩ = some (.int .i64 (s.get k).b) := by
  rw [Row.cell h]
  rcases (show k = 0 ∨ k = 1 ∨ k = 2 by omega) with rfl | rfl | rfl <;> rfl
theorem RowS.kept {W W' : World} {b : Nat} {s : Se} {row : Option Nat} (h : RowS W b s) (hg : W.grownBy W' row) (hne : some b ≠ row) : RowS W' b s := Row.keep h (hg.block b (Row.lt h) hne)
theorem okS_all {s : Se} (h : ∀ i, i < 3 → okC (s.get i) = true) : okS s = true := okS_iff.2 ⟨h 0 (by omega), h 1 (by omega), h 2 (by omega)⟩
theorem okS_bad {s : Se} {i : Nat} (h : okC (s.get i) = false) : okS s = false := by
  cases hs : okS s with
  | false => rfl
  | true => rw [okS_get hs i] at h; cases h

set_option maxHeartbeats 1000000 in
theorem echeck_any (s : Se) (w : World) :
    Calls Try.prog 25 #[s.val] w fun e w' => e = .returned (.int .i64 (chS s)) ∧ Below w.heap.size w w' := by
  refine (callsIn_wide (n := 3)).1 ?_
  refine callsIn_of_wp_marks Try.func25 rfl trivial ?_ rfl
  simp only [Try.ntmps25, List.size_toArray, List.length_cons, List.length_nil, Nat.reduceAdd, Nat.reduceSub, Array.replicate_succ, Array.replicate_zero, List.push_toArray, List.append_toArray, List.nil_append, List.cons_append]
  unfold Se.val
  gi_wp2_with (gi_at_call 48; refine (callsIn_wide.2 (ciphers_any _ _)).mono ?_; rintro e w' ⟨rfl, rfl⟩)
  obtain ⟨W0, hW0⟩ : ∃ W0 : World, (((w.alloc (Obj.cells #[Value.int IntKind.i64 s.x.a, Value.int IntKind.i64 s.x.b, Value.int IntKind.i64 s.y.a, Value.int IntKind.i64 s.y.b, Value.int IntKind.i64 s.z.a, Value.int IntKind.i64 s.z.b] 34)).alloc
        (Obj.cells #[Value.int IntKind.i64 0] 24)).alloc (Obj.cells #[Value.pointer (some { block := w.heap.size, off := 0 })] 71)) = W0 := ⟨_, rfl⟩
  have hz : W0.heap.size = w.heap.size + 3 := by rw [← hW0]; simp
  have hR : RowS W0 w.heap.size s := by rw [← hW0]; exact ((Row.new w 34 s.cells).alloc _).alloc _
  have hE : Boxed W0 (w.heap.size + 1) 24 (.int .i64 0) := by rw [← hW0]; exact (boxed_at (by simp) _ _).alloc _
  have hP : Boxed W0 (w.heap.size + 2) 71 (.pointer (some ⟨w.heap.size, 0, none⟩)) := by rw [← hW0]; exact boxed_at (by simp) _ _
  have hBW : Below w.heap.size w W0 := by rw [← hW0]; exact (((Below.refl _ w).alloc (Nat.le_refl _) _).alloc (by simp) _).alloc (by simp; omega) _
  rw [hW0]
  clear hW0
  refine wpIn_rangeL (w := W0) rfl (by omega) (gf := 61) (lb := #[.pointer (some ⟨w.heap.size + 2, 0, none⟩)]) rfl trivial (enters_of Try.func61 (by kernel_rfl) rfl)
    (ciphers_seq w.heap.size (w.heap.size + 2) _ 2 (by omega))
    (fun W hW => (hW.block _ (by omega)).trans hP) (by omega) (fun h => h) (fun h => h)
    (fun v hv => by obtain ⟨p, _, rfl⟩ := List.mem_map.1 hv; rfl)
    (fun k W => RowS W w.heap.size s ∧ Boxed W (w.heap.size + 1) 24 (.int .i64 0) ∧ Below w.heap.size w W ∧ ∀ i, i < k → okC (s.get i) = true)
    (fun c _ W => c = .ret ∧ okS s = false ∧ Boxed W (w.heap.size + 1) 24 (.int .i64 100) ∧ Below w.heap.size w W)
    (fun k W W' row ⟨h1, h2, h3, h4⟩ hg hr => ⟨h1.kept hg (fun e => by have := (hr _ e.symm).resolve_left (fun h => h); omega), h2.kept hg (fun e => by have := (hr _ e.symm).resolve_left (fun h => h); omega), h3.grown hg h3.size (fun r e => by have := (hr _ e).resolve_left (fun h => h); omega), h4⟩)
    (fun c k W W' row ⟨h1, h2, h3, h4⟩ hg hr => ⟨h1, h2, h3.kept hg (fun e => by have := (hr _ e.symm).resolve_left (fun h => h); omega), h4.grown hg h4.size (fun r e => by have := (hr _ e).resolve_left (fun h => h); omega)⟩)
    ⟨hR, hE, hBW, fun i hi => by omega⟩
    (fun k a' _ => k < 3 ∧ a' = { tmps := #[Value.agg #[Value.int IntKind.i64 s.x.a, Value.int IntKind.i64 s.x.b, Value.int IntKind.i64 s.y.a, Value.int IntKind.i64 s.y.b, Value.int IntKind.i64 s.z.a, Value.int IntKind.i64 s.z.b],
            Value.pointer (some { block := w.heap.size, off := 0 }),
            Value.pointer (some { block := w.heap.size + 1, off := 0 }), undef, .pointer (some ⟨w.heap.size, k * 2, none⟩),
            Value.func (Fn.func 61) #[] #[Value.pointer (some { block := w.heap.size + 1 + 1, off := 0 })], .int .i64 (k : Int), .pointer (some ⟨w.heap.size, k * 2, none⟩),
            undef, undef, undef, undef, undef, undef, undef, undef, undef, undef, undef, undef, undef, undef], defers := [] })
    (fun _ _ _ _ _ _ hs _ _ => hs) ?assign ?body ?done ?stop
  case assign =>
    intro l k v W K hI hv hsz hK
    obtain ⟨hk, rfl⟩ := ciVals_some hv
    clear hv
    unfold ciV
    gi_wp2
    exact hK _ _ (Kept.refl _ _) (SameOn.refl _ _) hI ⟨hk, rfl⟩
  case body =>
    rintro l k v a' W ⟨h1, h2, h3, h4⟩ ⟨hk, rfl⟩ hv hsz
    have c1 := h1.ca hk
    have c2 := h1.cb hk
    have c3 := h2.cell
    have c4 := h2.frozen
    have hok : okC (s.get k) = (vld (s.get k).a && vld (s.get k).b) := rfl
    have hbad := okS_bad (s := s) (i := k)
    obtain ⟨c, hsk⟩ : ∃ c, s.get k = c := ⟨_, rfl⟩
    rw [hsk] at c1 c2 hok hbad
    have hall : okC c = true → ∀ i, i < k + 1 → okC (s.get i) = true := fun hc i hi => by
      by_cases e : i = k
      · rw [e, hsk]; exact hc
      · exact h4 i (by omega)
    have H4 := Lib.hid hall
    clear hall hsk h4
    have HB := Lib.hid hbad
    have HO := Lib.hid hok
    clear hbad hok
    by_cases ha : vld c.a = true ∧ vld c.b = true
    · obtain ⟨ha, hb⟩ := ha
      gi_wp2_with (gi_at_call 32; refine (callsIn_wide.2 (valid_any _ _)).mono ?_; rintro e w' ⟨rfl, rfl⟩)
      exact ⟨Kept.refl _ _, SameOn.refl _ _, h1, h2, h3, H4.out (by rw [HO.out, ha, hb]; rfl)⟩
    · have hf : okS s = false := HB.out (by rw [HO.out]; cases hva : vld c.a <;> cases hvb : vld c.b <;> simp_all)
      have HF := Lib.hid hf
      clear hf
      cases hva : vld c.a with
      | true =>
        have hvb : vld c.b = false := by cases hvb : vld c.b <;> simp_all
        clear ha
        gi_wp2_with (gi_at_call 32; refine (callsIn_wide.2 (valid_any _ _)).mono ?_; rintro e w' ⟨rfl, rfl⟩)
        exact ⟨Kept.setCell _ _ (by simp only []; omega) (by simp only []; omega), rfl, HF.out, h2.set _, h3.setCell (p := ⟨w.heap.size + 1, 0, none⟩) (by simp) _⟩
      | false =>
        clear ha
        gi_wp2_with (gi_at_call 32; refine (callsIn_wide.2 (valid_any _ _)).mono ?_; rintro e w' ⟨rfl, rfl⟩)
        exact ⟨Kept.setCell _ _ (by simp only []; omega) (by simp only []; omega), rfl, HF.out, h2.set _, h3.setCell (p := ⟨w.heap.size + 1, 0, none⟩) (by simp) _⟩
  case done =>
    rintro W ⟨h1, h2, h3, h4⟩ hsz hD
    have e1 : chS s = 0 := by unfold chS; rw [if_pos (okS_all (fun i hi => h4 i (by rw [ciVals_length]; exact hi)))]
    have c3 := h2.cell
    have c4 := h2.frozen
    have HE := Lib.hid e1
    clear e1 h4 h1
    gi_wp2
    have hD' : (W.setCell ⟨w.heap.size + 1, 0, none⟩ (.int .i64 0)).heap[W0.heap.size]? = some (.deferred (some [])) := (Below.heap_setCell _ _ _ _ (by simp only []; omega)).trans hD
    have b1 := h2.set (.int .i64 0)
    have hBf := h3.setCell (p := ⟨w.heap.size + 1, 0, none⟩) (by simp) (.int .i64 0)
    refine ⟨by simp, .inl ⟨_, _, rfl, run_takeDeferred hD', ?_⟩⟩
    have d1 := (b1.kept (grownBy_putObj' _ W0.heap.size (.deferred none)) (by simp; omega)).cell
    refine ⟨.int .i64 0, ?_, by rw [HE.out], ?_⟩
    · simp [results, Try.f25, go_sem, d1]
    · exact hBf.grown (grownBy_putObj' _ W0.heap.size (.deferred none)) hBf.size (fun r e => by cases e; omega)
  case stop =>
    rintro c k W _ ⟨rfl, h2, h3, h4⟩ hsz hD
    have e1 : chS s = 100 := by unfold chS; rw [h2]; rfl
    have HE := Lib.hid e1
    clear e1 h2
    gi_wp2
    refine ⟨by simp, .inl ⟨_, _, rfl, run_takeDeferred hD, ?_⟩⟩
    have d1 := (h3.kept (grownBy_putObj' _ W0.heap.size (.deferred none)) (by simp; omega)).cell
    refine ⟨.int .i64 100, ?_, by rw [HE.out], ?_⟩
    · simp [results, Try.f25, go_sem, d1]
    · exact h4.grown (grownBy_putObj' _ W0.heap.size (.deferred none)) h4.size (fun r e => by cases e; omega)
end Go.Proofs.Ytlbnbginippjfaa
