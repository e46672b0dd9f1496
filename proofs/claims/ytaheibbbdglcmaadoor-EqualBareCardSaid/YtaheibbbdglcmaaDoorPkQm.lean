import Derived.Test.YtaheibbbdglcmaaDoorPkk
set_option linter.unusedSimpArgs false
namespace Go.Proofs.YtaheibbbdglcmaaDoor
open Go.RowKit Go.Shelf Fk

def _root_.Fk.Se.set (s : Se) (k : Nat) (c : Ci) : Se := ⟨if k = 0 then c else s.x, if k = 1 then c else s.y, if k = 2 then c else s.z⟩
theorem mapTo_set (f : Nat → Ci → Ci) (s : Se) {k : Nat} (h : k < 3) : (s.mapTo f k).set k (f k (s.get k)) = s.mapTo f (k + 1) := by
  rcases (show k = 0 ∨ k = 1 ∨ k = 2 by omega) with rfl | rfl | rfl <;> rfl
theorem mapTo_get (f : Nat → Ci → Ci) (s : Se) {k : Nat} (h : k < 3) : (s.mapTo f k).get k = s.get k := by
  rcases (show k = 0 ∨ k = 1 ∨ k = 2 by omega) with rfl | rfl | rfl <;> rfl
theorem set_cells (s : Se) {k : Nat} (c : Ci) (h : k < 3) : (s.set k c).cells = (s.cells.set (k * 2) (.int .i64 c.a)).set (k * 2 + 1) (.int .i64 c.b) := by
  rcases (show k = 0 ∨ k = 1 ∨ k = 2 by omega) with rfl | rfl | rfl <;> rfl
theorem set_cells_b (s : Se) {k : Nat} (c : Ci) (h : k < 3) (ha : c.a = (s.get k).a) : (s.set k c).cells = s.cells.set (k * 2 + 1) (.int .i64 c.b) := by
  rcases (show k = 0 ∨ k = 1 ∨ k = 2 by omega) with rfl | rfl | rfl
  · have : c.a = s.x.a := ha
    simp [Se.set, Se.cells, this]
  · have : c.a = s.y.a := ha
    simp [Se.set, Se.cells, this]
  · have : c.a = s.z.a := ha
    simp [Se.set, Se.cells, this]
theorem RowT_get {W : World} {b : Nat} {t : TypeId} {r : Tr} (h : Row W b t r.cells) {k : Nat} (hk : k < 3) : W.cell? ⟨b, k, none⟩ = some (.int .i64 (r.get k)) := by
  rw [Row.cell h]
  rcases (show k = 0 ∨ k = 1 ∨ k = 2 by omega) with rfl | rfl | rfl <;> rfl
theorem powC_bd (a n : Int) : 0 ≤ powC a n ∧ powC a n < 2147483579 := by
  unfold powC; split
  · exact ⟨pwr_nonneg _ _, pwr_lt _ _⟩
  · omega
/-- what is returned when a function has no results -/
def ranC (bs : Nat) (s : Se) (W : World) (e : Ending) (W' : World) : Prop := (∃ v, e = .returned v) ∧ RowS W' bs s ∧ W.grownBy W' (some bs)

/-- what a region that makes new keys holds: W's blocks are as they were, and so the loaded cells -/
def SMo (W : World) (p1 p2 p3 p4 : Addr) (v1 v2 v3 v4 : Value) (w' : World) : Prop := Below W.heap.size W w' ∧ w'.cell? p1 = some v1 ∧ w'.cell? p2 = some v2 ∧ w'.cell? p3 = some v3 ∧ w'.cell? p4 = some v4
theorem SMo.below {W w' w2 : World} {p1 p2 p3 p4 : Addr} {v1 v2 v3 v4 : Value} (h1 : p1.block < W.heap.size) (h2 : p2.block < W.heap.size) (h3 : p3.block < W.heap.size) (h4 : p4.block < W.heap.size)
    (h : SMo W p1 p2 p3 p4 v1 v2 v3 v4 w') (hb : Below w'.heap.size w' w2) : SMo W p1 p2 p3 p4 v1 v2 v3 v4 w2 := by
  obtain ⟨a, b, c, d, e⟩ := h
  have hz := a.size
  exact ⟨a.trans (hb.mono hz), (hb.cell (by omega)).trans b, (hb.cell (by omega)).trans c, (hb.cell (by omega)).trans d, (hb.cell (by omega)).trans e⟩
theorem below_alloc (w : World) (o : Obj) : Below w.heap.size w (w.alloc o) := (Below.refl _ _).alloc (Nat.le_refl _) o

theorem grown_set {W w' : World} {p : Addr} {u : Value} {b : Nat} (h : W.grownBy w' (some b)) (hp : p.block = b) : W.grownBy (w'.setCell p u) (some b) :=
  ⟨h.os, h.tape, h.output, by simpa [World.setCell] using h.size, fun k hk hn => (Below.heap_setCell w' p u k (fun e => hn (by rw [e, hp]))).trans (h.block k hk hn)⟩
theorem grown_below {W w' : World} (h : Below W.heap.size W w') (row : Option Nat) : W.grownBy w' row := ⟨h.os, h.tape, h.output, h.size, fun k hk _ => h.block k hk⟩

set_option maxHeartbeats 2000000 in
theorem more_in (k : Nat) (hk : k < 3) (s : Se) (r : Tr) (key : Int) (bs br bk : Nat) (W : World) (h : RowS W bs s) (hr : Row W br 49 r.cells) (hkey : Boxed W bk 3 (.int .i64 key))
    (hca : 0 ≤ (s.get k).a ∧ (s.get k).a < 2147483579) (hcb : 0 ≤ (s.get k).b ∧ (s.get k).b < 2147483579) :
    Calls Tryd.prog 79 #[.int .i64 (k : Int), .pointer (some ⟨bs, k * 2, none⟩), .pointer (some ⟨br, 0, none⟩), .pointer (some ⟨bk, 0, none⟩)] W (ranC bs (s.set k (moreC key r k (s.get k))) W) := by
  have c1 := h.ca hk
  have c2 := h.cb hk
  have c3 := RowT_get hr hk
  have c4 := hkey.cell
  have f1 := Row.frozen h (k * 2)
  have f2 := Row.frozen h (k * 2 + 1)
  have hs := set_cells s (moreC key r k (s.get k)) hk
  have hlb := Row.lt h
  have hlr := Row.lt hr
  have hlk := Boxed.lt hkey
  have hkeep := fun (w' : World) (hw : Below W.heap.size W w') => (Row.keep h (hw.block bs hlb) : RowS w' bs s)
  have hmo : moreC key r k (s.get k) = ⟨(s.get k).a * powC 4 (r.get k) % 2147483579, (s.get k).b * powC key (r.get k) % 2147483579⟩ := rfl
  unfold moreC at hs
  obtain ⟨c, hc⟩ : ∃ c, s.get k = c := ⟨_, rfl⟩
  obtain ⟨ri, hri⟩ : ∃ ri, r.get k = ri := ⟨_, rfl⟩
  rw [hc] at c1 c2 hca hcb hs hmo
  rw [hri] at c3 hs hmo
  have p1 := powC_bd 4 ri
  have p2 := powC_bd key ri
  have q1 := fun w => epow_any 4 ri w
  have q2 := fun w => epow_any key ri w
  generalize powC 4 ri = x1 at *
  generalize powC key ri = x2 at *
  have HS := Lib.hid hs
  have HM := Lib.hid hmo
  have Q1 := Lib.hid q1
  have Q2 := Lib.hid q2
  have HK := Lib.hid hkeep
  have hS0 : SMo W ⟨bs, k * 2, none⟩ ⟨bs, k * 2 + 1, none⟩ ⟨br, k, none⟩ ⟨bk, 0, none⟩ (.int .i64 c.a) (.int .i64 c.b) (.int .i64 ri) (.int .i64 key) W.drew := ⟨(Below.refl _ _).drew, c1, c2, c3, c4⟩
  have s1 : (0 : Int) ≤ k := by omega
  have s2 : (k : Int) < 3 := by omega
  clear hs hmo q1 q2 hri h hr hkey hkeep
  go_enter Tryd.func79, Tryd.ntmps79
  refine wp_region_ord 23 [(0, 1), (1, 0), (1, 2), (1, 3), (1, 4), (1, 5), (1, 6), (1, 7), (1, 8), (1, 12), (1, 13), (1, 14), (1, 15), (1, 16), (1, 17), (1, 18), (1, 19), (2, 9), (2, 10), (2, 11), (2, 20), (2, 21), (2, 22)]
    (SMo W ⟨bs, k * 2, none⟩ ⟨bs, k * 2 + 1, none⟩ ⟨br, k, none⟩ ⟨bk, 0, none⟩ (.int .i64 c.a) (.int .i64 c.b) (.int .i64 ri) (.int .i64 key)) (by kernel_rfl) (by kernel_rfl) (fun _ _ d _ _ h => by cases d <;> exact h) hS0 ?_
  refine wpOrd_any (v := ?_) rfl (by rfl) (fun w => ?_) ?_
  rotate_left 1
  · go_simp
    with_reducible rfl
  simp only [Act.put, List.setIfInBounds_toArray, List.set_cons_zero, List.set_cons_succ]
  iterate 16
    refine wpOrd_take (v := ?_) rfl (by rfl) (fun w hSw => ?_) ?_
    rotate_left 1
    · obtain ⟨hSB, hS1, hS2, hS3, hS4⟩ := hSw
      go_simp
      with_reducible rfl
    simp only [Act.put, List.setIfInBounds_toArray, List.set_cons_zero, List.set_cons_succ]
  refine wpOrd_step rfl (fun K hK => ⟨by rfl, ?_⟩)
  go_simp
  go_at_call 64
  refine (Q1.out _).mono ?_
  rintro e w1 ⟨rfl, hb⟩
  refine hK _ _ (hS0.below hlb hlb hlr hlk hb) ?_
  replace hS0 := hS0.below hlb hlb hlr hlk hb
  clear hK K hb
  refine wpOrd_step rfl (fun K hK => ⟨by rfl, ?_⟩)
  go_simp
  refine hK _ _ (hS0.below hlb hlb hlr hlk (below_alloc _ _)) ?_
  replace hS0 := hS0.below hlb hlb hlr hlk (below_alloc _ (Obj.cells #[Value.int IntKind.i64 c.a, Value.int IntKind.i64 x1] 3))
  clear hK K
  refine wpOrd_step rfl (fun K hK => ⟨by rfl, ?_⟩)
  go_simp
  go_at_call 63
  refine (times_two c.a x1 hca p1 w1.heap.size _ (by simp) (by simp)).mono ?_
  rintro e w2 ⟨rfl, rfl⟩
  refine hK _ _ hS0 ?_
  clear hK K
  generalize w1.alloc (Obj.cells #[Value.int IntKind.i64 c.a, Value.int IntKind.i64 x1] 3) = w3 at *
  refine wpOrd_step rfl (fun K hK => ⟨by rfl, ?_⟩)
  go_simp
  go_at_call 64
  refine (Q2.out _).mono ?_
  rintro e w4 ⟨rfl, hb⟩
  refine hK _ _ (hS0.below hlb hlb hlr hlk hb) ?_
  replace hS0 := hS0.below hlb hlb hlr hlk hb
  clear hK K hb
  refine wpOrd_step rfl (fun K hK => ⟨by rfl, ?_⟩)
  go_simp
  refine hK _ _ (hS0.below hlb hlb hlr hlk (below_alloc _ _)) ?_
  replace hS0 := hS0.below hlb hlb hlr hlk (below_alloc _ (Obj.cells #[Value.int IntKind.i64 c.b, Value.int IntKind.i64 x2] 3))
  clear hK K
  refine wpOrd_step rfl (fun K hK => ⟨by rfl, ?_⟩)
  go_simp
  go_at_call 63
  refine (times_two c.b x2 hcb p2 w4.heap.size _ (by simp) (by simp)).mono ?_
  rintro e w5 ⟨rfl, rfl⟩
  refine hK _ _ hS0 ?_
  clear hK K
  generalize w4.alloc (Obj.cells #[Value.int IntKind.i64 c.b, Value.int IntKind.i64 x2] 3) = w6 at *
  refine wpOrd_nil ?_
  simp only [List.drop_succ_cons, List.drop_zero]
  have hBW := hS0.1
  have hRow := HK.out _ hBW
  have g1 := Row.frozen hRow (k * 2)
  have g2 : (w6.setCell ⟨bs, k * 2, none⟩ (.int .i64 (c.a * x1 % 2147483579))).frozen? ⟨bs, k * 2 + 1, none⟩ = false := Row.frozen (Row.store hRow (k * 2) _) _
  have g3 : w6.cell? ⟨bs, k * 2, none⟩ = some (.int .i64 c.a) := hS0.2.1
  have g4 : (w6.setCell ⟨bs, k * 2, none⟩ (.int .i64 (c.a * x1 % 2147483579))).cell? ⟨bs, k * 2 + 1, none⟩ = some (.int .i64 c.b) := (World.cell?_setCell_other _ _ _ _ (fun e => by injection e; omega)).trans hS0.2.2.1
  have HRow := Lib.hid hRow
  clear hRow hS0 c1 c2 c3 c4 f1 f2
  go_wp2_with fail
  go_end0
  refine ⟨⟨_, rfl⟩, ?_, ?_⟩
  · show Row _ _ _ _
    rw [HM.out, HS.out]
    exact Row.store (Row.store HRow.out (k * 2) _) (k * 2 + 1) _
  · exact grown_set (grown_set (grown_below hBW _) rfl) rfl
end Go.Proofs.YtaheibbbdglcmaaDoor

set_option linter.unusedSimpArgs false
namespace Go.Proofs.YtaheibbbdglcmaaDoor
open Go.RowKit Go.Shelf Fk
theorem wide_fn' (f : FuncId) : Fence.wide.fn f = True := rfl

set_option maxHeartbeats 2000000 in
theorem strip_in (k : Nat) (hk : k < 3) (s : Se) (n : Int) (bs bn : Nat) (W : World) (h : RowS W bs s) (hn : Boxed W bn 3 (.int .i64 n)) (hn1 : 1 ≤ n) (hn2 : n < 1073741789)
    (_hca : 0 ≤ (s.get k).a ∧ (s.get k).a < 2147483579) (hcb : 0 ≤ (s.get k).b ∧ (s.get k).b < 2147483579) :
    Calls Tryd.prog 62 #[.int .i64 (k : Int), .pointer (some ⟨bs, k * 2, none⟩), .pointer (some ⟨bn, 0, none⟩)] W (ranC bs (s.set k (stripC n k (s.get k))) W) := by
  have c1 := h.ca hk
  have c2 := h.cb hk
  have c4 := hn.cell
  have hs := set_cells_b s (stripC n k (s.get k)) hk rfl
  have hlb := Row.lt h
  have hlk := Boxed.lt hn
  have hkeep := fun (w' : World) (hw : Below W.heap.size W w') => (Row.keep h (hw.block bs hlb) : RowS w' bs s)
  have hmo : stripC n k (s.get k) = ⟨(s.get k).a, (s.get k).b * powC (s.get k).a (-n) % 2147483579⟩ := rfl
  obtain ⟨c, hc⟩ : ∃ c, s.get k = c := ⟨_, rfl⟩
  rw [hc] at c1 c2 hcb hs hmo
  rw [hmo] at hs
  have p1 := powC_bd c.a (-n)
  have q1 := fun w => epow_any c.a (-n) w
  generalize powC c.a (-n) = x1 at *
  have HS := Lib.hid hs
  have HM := Lib.hid hmo
  have Q1 := Lib.hid q1
  have HK := Lib.hid hkeep
  have hS0 : SMo W ⟨bs, k * 2, none⟩ ⟨bs, k * 2 + 1, none⟩ ⟨bn, 0, none⟩ ⟨bn, 0, none⟩ (.int .i64 c.a) (.int .i64 c.b) (.int .i64 n) (.int .i64 n) W.drew := ⟨(Below.refl _ _).drew, c1, c2, c4, c4⟩
  have s1 : (0 : Int) ≤ k := by omega
  have s2 : (k : Int) < 3 := by omega
  have s3 : IntKind.i64.wrap (-n) = -n := by rw [IntKind.wrap_i64]; omega
  clear hs hmo q1 h hn hkeep
  go_enter Tryd.func62, Tryd.ntmps62
  refine wp_region_ord 14 [(1, 0), (1, 1), (1, 2), (1, 3), (1, 4), (1, 5), (1, 6), (1, 7), (1, 8), (1, 9), (1, 10), (2, 11), (2, 12), (2, 13)]
    (SMo W ⟨bs, k * 2, none⟩ ⟨bs, k * 2 + 1, none⟩ ⟨bn, 0, none⟩ ⟨bn, 0, none⟩ (.int .i64 c.a) (.int .i64 c.b) (.int .i64 n) (.int .i64 n)) (by kernel_rfl) (by kernel_rfl) (fun _ _ d _ _ h => by cases d <;> exact h) hS0 ?_
  iterate 11
    refine wpOrd_take (v := ?_) rfl (by rfl) (fun w hSw => ?_) ?_
    rotate_left 1
    · obtain ⟨hSB, hS1, hS2, hS3, hS4⟩ := hSw
      go_simp
      with_reducible rfl
    simp only [Act.put, List.setIfInBounds_toArray, List.set_cons_zero, List.set_cons_succ]
  refine wpOrd_step rfl (fun K hK => ⟨by rfl, ?_⟩)
  go_simp
  go_at_call 64
  refine (Q1.out _).mono ?_
  rintro e w1 ⟨rfl, hb⟩
  refine hK _ _ (hS0.below hlb hlb hlk hlk hb) ?_
  replace hS0 := hS0.below hlb hlb hlk hlk hb
  clear hK K hb
  refine wpOrd_step rfl (fun K hK => ⟨by rfl, ?_⟩)
  go_simp
  refine hK _ _ (hS0.below hlb hlb hlk hlk (below_alloc _ _)) ?_
  replace hS0 := hS0.below hlb hlb hlk hlk (below_alloc _ (Obj.cells #[Value.int IntKind.i64 c.b, Value.int IntKind.i64 x1] 3))
  clear hK K
  refine wpOrd_step rfl (fun K hK => ⟨by rfl, ?_⟩)
  go_simp
  go_at_call 63
  refine (times_two c.b x1 hcb p1 w1.heap.size _ (by simp) (by simp)).mono ?_
  rintro e w2 ⟨rfl, rfl⟩
  refine hK _ _ hS0 ?_
  clear hK K
  generalize w1.alloc (Obj.cells #[Value.int IntKind.i64 c.b, Value.int IntKind.i64 x1] 3) = w6 at *
  refine wpOrd_nil ?_
  simp only [List.drop_succ_cons, List.drop_zero]
  have hBW := hS0.1
  have hRow := HK.out _ hBW
  have g2 : w6.frozen? ⟨bs, k * 2 + 1, none⟩ = false := Row.frozen hRow _
  have g4 : w6.cell? ⟨bs, k * 2 + 1, none⟩ = some (.int .i64 c.b) := hS0.2.2.1
  have HRow := Lib.hid hRow
  clear hRow hS0 c1 c2 c4 s3
  go_wp2_with fail
  go_end0
  refine ⟨⟨_, rfl⟩, ?_, ?_⟩
  · show Row _ _ _ _
    rw [HM.out, HS.out]
    exact Row.store HRow.out (k * 2 + 1) _
  · exact grown_set (grown_below hBW _) rfl

set_option maxHeartbeats 400000 in
theorem more_any (key : Int) (r : Tr) (w : World) :
    Calls Tryd.prog 59 #[.int .i64 key, r.val] w fun e w' => e = .returned (.func (.func 79) #[] #[.pointer (some ⟨w.heap.size + 1, 0, none⟩), .pointer (some ⟨w.heap.size, 0, none⟩)]) ∧
      (w.alloc (.cells #[.int .i64 key] 3)).alloc (.cells r.cells.toArray 49) = w' := by
  unfold Tr.val Tr.cells
  go_enter Tryd.func59, Tryd.ntmps59
  go_wp2
  go_ret
  exact ⟨rfl, rfl⟩
end Go.Proofs.YtaheibbbdglcmaaDoor

set_option linter.unusedSimpArgs false
namespace Go.Proofs.YtaheibbbdglcmaaDoor
open Go.RowKit Go.Shelf Fk
attribute [local go_sem] Oper.semAt_some wide_fn'
def inR (s : Se) : Prop := ∀ k, k < 3 → (0 ≤ (s.get k).a ∧ (s.get k).a < 2147483579) ∧ (0 ≤ (s.get k).b ∧ (s.get k).b < 2147483579)
theorem Se.val_eq (s : Se) : s.val = .agg s.cells.toArray := rfl

set_option maxRecDepth 100000 in
set_option maxHeartbeats 2000000 in
theorem changed_more (s : Se) (key : Int) (r : Tr) (br bk ab : Nat) (w : World) (hs : inR s) (hr : Row w br 49 r.cells) (hkey : Boxed w bk 3 (.int .i64 key))
    (hab : Boxed w ab 83 (.func (.func 79) #[] #[.pointer (some ⟨br, 0, none⟩), .pointer (some ⟨bk, 0, none⟩)])) :
    Calls Tryd.prog 58 #[s.val, .slice (some ⟨ab, 0, none⟩) 1 1] w fun e w' => e = .returned (s.map (moreC key r)).val ∧ Below w.heap.size w w' := by
  have hlr := Row.lt hr
  have hlk := Boxed.lt hkey
  have hla := Boxed.lt hab
  refine (callsIn_wide (n := 3)).1 ?_
  refine callsIn_of_wp_marks Tryd.func58 rfl trivial ?_ rfl
  simp only [Tryd.ntmps58, List.size_toArray, List.length_cons, List.length_nil, Nat.reduceAdd, Nat.reduceSub, Array.replicate_succ, Array.replicate_zero, List.push_toArray, List.append_toArray, List.nil_append, List.cons_append]
  unfold Se.val
  gi_wp2_with (gi_at_call 61; refine (callsIn_wide.2 (ciphers_any _ _)).mono ?_; rintro e w' ⟨rfl, rfl⟩)
  obtain ⟨W0, hW0⟩ : ∃ W0 : World, ((((w.alloc (Obj.cells #[Value.int IntKind.i64 s.x.a, Value.int IntKind.i64 s.x.b, Value.int IntKind.i64 s.y.a, Value.int IntKind.i64 s.y.b, Value.int IntKind.i64 s.z.a, Value.int IntKind.i64 s.z.b] 55)).alloc
        (Obj.cells #[Value.slice (some { block := ab, off := 0 }) 1 1] 111)).alloc
        (Obj.cells #[Value.int IntKind.i64 0, Value.int IntKind.i64 0, Value.int IntKind.i64 0, Value.int IntKind.i64 0, Value.int IntKind.i64 0, Value.int IntKind.i64 0] 55)).alloc
        (Obj.cells #[Value.pointer (some { block := w.heap.size, off := 0 })] 88)) = W0 := ⟨_, rfl⟩
  have hz : W0.heap.size = w.heap.size + 4 := by rw [← hW0]; simp
  have hR : RowS W0 w.heap.size s := by rw [← hW0]; exact (((Row.new w 55 s.cells).alloc _).alloc _).alloc _
  have hY : Boxed W0 (w.heap.size + 1) 111 (.slice (some ⟨ab, 0, none⟩) 1 1) := by rw [← hW0]; exact ((boxed_at (by simp) _ _).alloc _).alloc _
  have hO : RowS W0 (w.heap.size + 2) default := by rw [← hW0]; exact (row_at (by simp) _ (default : Se).cells).alloc _
  have hP : Boxed W0 (w.heap.size + 3) 88 (.pointer (some ⟨w.heap.size, 0, none⟩)) := by rw [← hW0]; exact boxed_at (by simp) _ _
  have hBW : Below w.heap.size w W0 := by rw [← hW0]; exact ((((Below.refl _ w).alloc (Nat.le_refl _) _).alloc (by simp) _).alloc (by simp; omega) _).alloc (by simp; omega) _
  rw [hW0]
  clear hW0
  refine wpIn_rangeL (w := W0) rfl (by omega) (gf := 80) (lb := #[.pointer (some ⟨w.heap.size + 3, 0, none⟩)]) rfl trivial (enters_of Tryd.func80 (by kernel_rfl) rfl)
    (ciphers_seq w.heap.size (w.heap.size + 3) _ 2 (by omega))
    (fun W hW => (hW.block _ (by omega)).trans hP) (by omega) (fun h => h) (fun h => h)
    (fun v hv => by obtain ⟨p, _, rfl⟩ := List.mem_map.1 hv; rfl)
    (fun k W => RowS W w.heap.size (s.mapTo (moreC key r) k) ∧ Boxed W (w.heap.size + 1) 111 (.slice (some ⟨ab, 0, none⟩) 1 1) ∧ RowS W (w.heap.size + 2) default ∧ Below w.heap.size w W)
    (fun _ _ _ => False)
    (fun k W W' row ⟨h1, h2, h3, h4⟩ hg hr => ⟨h1.kept hg (fun e => by have := (hr _ e.symm).resolve_left (fun h => h); omega), h2.kept hg (fun e => by have := (hr _ e.symm).resolve_left (fun h => h); omega), h3.kept hg (fun e => by have := (hr _ e.symm).resolve_left (fun h => h); omega), h4.grown hg h4.size (fun r e => by have := (hr _ e).resolve_left (fun h => h); omega)⟩)
    (fun _ _ _ _ _ hs _ _ => hs.elim)
    ⟨hR, hY, hO, hBW⟩
    (fun k a' _ => k < 3 ∧ a' = { tmps := #[Value.agg #[Value.int IntKind.i64 s.x.a, Value.int IntKind.i64 s.x.b, Value.int IntKind.i64 s.y.a, Value.int IntKind.i64 s.y.b, Value.int IntKind.i64 s.z.a, Value.int IntKind.i64 s.z.b],
            Value.slice (some { block := ab, off := 0 }) 1 1, Value.pointer (some { block := w.heap.size, off := 0 }),
            Value.pointer (some { block := w.heap.size + 1, off := 0 }),
            Value.pointer (some { block := w.heap.size + 1 + 1, off := 0 }), .int .i64 (k : Int), .pointer (some ⟨w.heap.size, k * 2, none⟩), undef, undef,
            Value.func (Fn.func 80) #[] #[Value.pointer (some { block := w.heap.size + 1 + 1 + 1, off := 0 })], .int .i64 (k : Int), .pointer (some ⟨w.heap.size, k * 2, none⟩),
            undef, undef, undef, undef, undef, undef, undef, undef, undef, undef, undef, undef], defers := [] })
    (fun _ _ _ _ _ _ hs _ _ => hs) ?assign ?body ?done ?stop
  case assign =>
    intro l k v W K hI hv hsz hK
    obtain ⟨hk, rfl⟩ := ciVals_some hv
    clear hv
    unfold ciV
    gi_wp2
    exact hK _ _ (Kept.refl _ _) (SameOn.refl _ _) hI ⟨hk, rfl⟩
  case body =>
    rintro l k v a' W ⟨h1, h2, h3, h4⟩ ⟨hk, rfl⟩ hv hsz
    have c1 := h2.cell
    have c2 : W.cell? ⟨ab, 0, none⟩ = some (.func (.func 79) #[] #[.pointer (some ⟨br, 0, none⟩), .pointer (some ⟨bk, 0, none⟩)]) := Boxed.cell (show Boxed W ab _ _ from (h4.block ab hla).trans hab)
    have hr' : Row W br 49 r.cells := Row.keep hr (h4.block br hlr)
    have hk' : Boxed W bk 3 (.int .i64 key) := (h4.block bk hlk).trans hkey
    have hg := mapTo_get (moreC key r) s hk
    have hst := mapTo_set (moreC key r) s hk
    obtain ⟨i1, i2⟩ := hs k hk
    rw [← hg] at i1 i2 hst
    have hcall := more_in k hk (s.mapTo (moreC key r) k) r key w.heap.size br bk W h1 hr' hk' i1 i2
    rw [hst] at hcall
    have HC := Lib.hid hcall
    clear hcall hg hst hr' hk' i1 i2 hv
    gi_wp2
    refine wpIn_loop_rounds 2 ?_
    rw [roundsIn_succ]
    gi_wp2_with (gi_at_call 79; refine (callsIn_wide.2 HC.out).mono ?_; rintro e w' ⟨⟨v', rfl⟩, hr1, hr2⟩)
    rw [roundsIn_succ]
    gi_wp2
    refine ⟨Kept.grown hr2 (by omega) (by simp; omega) (by simp; omega), ?_, hr1, h2.kept hr2 (by simp), h3.kept hr2 (by simp), h4.grown hr2 h4.size (fun r e => by cases e; exact Nat.le_refl _)⟩
    intro rr hrr
    have h5 : rr = w.heap.size + 3 := hrr
    subst h5
    exact hr2.block _ (by omega) (by simp)
  case done =>
    rintro W ⟨h1, h2, h3, h4⟩ hsz hD
    rw [ciVals_length, Se.mapTo_three] at h1
    obtain ⟨t, ht⟩ : ∃ t, s.map (moreC key r) = t := ⟨_, rfl⟩
    rw [ht] at h1
    have HT := Lib.hid ht
    clear ht
    have c0 := Row.cell h1 0
    have c1 := Row.cell h1 1
    have c2 := Row.cell h1 2
    have c3 := Row.cell h1 3
    have c4 := Row.cell h1 4
    have c5 := Row.cell h1 5
    have f0 := Row.frozen h3 0
    have f1 := Row.frozen h3 1
    have f2 := Row.frozen h3 2
    have f3 := Row.frozen h3 3
    have f4 := Row.frozen h3 4
    have f5 := Row.frozen h3 5
    have e0 := Row.cell h3 0
    have e1 := Row.cell h3 1
    have e2 := Row.cell h3 2
    have e3 := Row.cell h3 3
    have e4 := Row.cell h3 4
    have e5 := Row.cell h3 5
    simp only [Se.cells, List.getElem?_cons_zero, List.getElem?_cons_succ] at c0 c1 c2 c3 c4 c5 e0 e1 e2 e3 e4 e5
    gi_wp2
    have h6 : RowS ((((((W.setCell ⟨w.heap.size + 1 + 1, 0, none⟩ (.int .i64 t.x.a)).setCell ⟨w.heap.size + 1 + 1, 1, none⟩ (.int .i64 t.x.b)).setCell ⟨w.heap.size + 1 + 1, 2, none⟩ (.int .i64 t.y.a)).setCell ⟨w.heap.size + 1 + 1, 3, none⟩ (.int .i64 t.y.b)).setCell ⟨w.heap.size + 1 + 1, 4, none⟩ (.int .i64 t.z.a)).setCell ⟨w.heap.size + 1 + 1, 5, none⟩ (.int .i64 t.z.b)) (w.heap.size + 1 + 1) t :=
      Row.store (Row.store (Row.store (Row.store (Row.store (Row.store h3 0 _) 1 _) 2 _) 3 _) 4 _) 5 _
    have hB6 : Below w.heap.size w ((((((W.setCell ⟨w.heap.size + 1 + 1, 0, none⟩ (.int .i64 t.x.a)).setCell ⟨w.heap.size + 1 + 1, 1, none⟩ (.int .i64 t.x.b)).setCell ⟨w.heap.size + 1 + 1, 2, none⟩ (.int .i64 t.y.a)).setCell ⟨w.heap.size + 1 + 1, 3, none⟩ (.int .i64 t.y.b)).setCell ⟨w.heap.size + 1 + 1, 4, none⟩ (.int .i64 t.z.a)).setCell ⟨w.heap.size + 1 + 1, 5, none⟩ (.int .i64 t.z.b)) :=
      (((((h4.setCell (by simp only []; omega) _).setCell (by simp only []; omega) _).setCell (by simp only []; omega) _).setCell (by simp only []; omega) _).setCell (by simp only []; omega) _).setCell (by simp only []; omega) _
    have hD6 : ((((((W.setCell ⟨w.heap.size + 1 + 1, 0, none⟩ (.int .i64 t.x.a)).setCell ⟨w.heap.size + 1 + 1, 1, none⟩ (.int .i64 t.x.b)).setCell ⟨w.heap.size + 1 + 1, 2, none⟩ (.int .i64 t.y.a)).setCell ⟨w.heap.size + 1 + 1, 3, none⟩ (.int .i64 t.y.b)).setCell ⟨w.heap.size + 1 + 1, 4, none⟩ (.int .i64 t.z.a)).setCell ⟨w.heap.size + 1 + 1, 5, none⟩ (.int .i64 t.z.b)).heap[W0.heap.size]? = some (.deferred (some [])) := by
      refine (Below.heap_setCell _ _ _ _ ?_).trans ((Below.heap_setCell _ _ _ _ ?_).trans ((Below.heap_setCell _ _ _ _ ?_).trans ((Below.heap_setCell _ _ _ _ ?_).trans ((Below.heap_setCell _ _ _ _ ?_).trans ((Below.heap_setCell _ _ _ _ ?_).trans hD))))) <;> (simp only []; omega)
    generalize ((((((W.setCell ⟨w.heap.size + 1 + 1, 0, none⟩ (.int .i64 t.x.a)).setCell ⟨w.heap.size + 1 + 1, 1, none⟩ (.int .i64 t.x.b)).setCell ⟨w.heap.size + 1 + 1, 2, none⟩ (.int .i64 t.y.a)).setCell ⟨w.heap.size + 1 + 1, 3, none⟩ (.int .i64 t.y.b)).setCell ⟨w.heap.size + 1 + 1, 4, none⟩ (.int .i64 t.z.a)).setCell ⟨w.heap.size + 1 + 1, 5, none⟩ (.int .i64 t.z.b)) = W6 at *
    refine ⟨by simp, .inl ⟨_, _, rfl, run_takeDeferred hD6, ?_⟩⟩
    have h7 := h6.kept (grownBy_putObj' _ W0.heap.size (.deferred none)) (by simp; omega)
    have d0 := Row.cell h7 0
    have d1 := Row.cell h7 1
    have d2 := Row.cell h7 2
    have d3 := Row.cell h7 3
    have d4 := Row.cell h7 4
    have d5 := Row.cell h7 5
    simp only [Se.cells, List.getElem?_cons_zero, List.getElem?_cons_succ] at d0 d1 d2 d3 d4 d5
    refine ⟨t.val, ?_, by rw [HT.out]; rfl, ?_⟩
    · simp [results, Tryd.f58, go_sem, d0, d1, d2, d3, d4, d5, Se.val]
    · exact hB6.grown (grownBy_putObj' _ W0.heap.size (.deferred none)) hB6.size (fun r e => by cases e; omega)
  case stop =>
    rintro c k W _ h _ _
    exact h.elim
set_option maxRecDepth 100000 in
set_option maxHeartbeats 2000000 in
theorem changed_strip (s : Se) (n : Int) (bn ab : Nat) (w : World) (hs : inR s) (hn1 : 1 ≤ n) (hn2 : n < 1073741789) (hn : Boxed w bn 3 (.int .i64 n))
    (hab : Boxed w ab 83 (.func (.func 62) #[] #[.pointer (some ⟨bn, 0, none⟩)])) :
    Calls Tryd.prog 58 #[s.val, .slice (some ⟨ab, 0, none⟩) 1 1] w fun e w' => e = .returned (s.map (stripC n)).val ∧ Below w.heap.size w w' := by
  have hlk := Boxed.lt hn
  have hla := Boxed.lt hab
  refine (callsIn_wide (n := 3)).1 ?_
  refine callsIn_of_wp_marks Tryd.func58 rfl trivial ?_ rfl
  simp only [Tryd.ntmps58, List.size_toArray, List.length_cons, List.length_nil, Nat.reduceAdd, Nat.reduceSub, Array.replicate_succ, Array.replicate_zero, List.push_toArray, List.append_toArray, List.nil_append, List.cons_append]
  unfold Se.val
  gi_wp2_with (gi_at_call 61; refine (callsIn_wide.2 (ciphers_any _ _)).mono ?_; rintro e w' ⟨rfl, rfl⟩)
  obtain ⟨W0, hW0⟩ : ∃ W0 : World, ((((w.alloc (Obj.cells #[Value.int IntKind.i64 s.x.a, Value.int IntKind.i64 s.x.b, Value.int IntKind.i64 s.y.a, Value.int IntKind.i64 s.y.b, Value.int IntKind.i64 s.z.a, Value.int IntKind.i64 s.z.b] 55)).alloc
        (Obj.cells #[Value.slice (some { block := ab, off := 0 }) 1 1] 111)).alloc
        (Obj.cells #[Value.int IntKind.i64 0, Value.int IntKind.i64 0, Value.int IntKind.i64 0, Value.int IntKind.i64 0, Value.int IntKind.i64 0, Value.int IntKind.i64 0] 55)).alloc
        (Obj.cells #[Value.pointer (some { block := w.heap.size, off := 0 })] 88)) = W0 := ⟨_, rfl⟩
  have hz : W0.heap.size = w.heap.size + 4 := by rw [← hW0]; simp
  have hR : RowS W0 w.heap.size s := by rw [← hW0]; exact (((Row.new w 55 s.cells).alloc _).alloc _).alloc _
  have hY : Boxed W0 (w.heap.size + 1) 111 (.slice (some ⟨ab, 0, none⟩) 1 1) := by rw [← hW0]; exact ((boxed_at (by simp) _ _).alloc _).alloc _
  have hO : RowS W0 (w.heap.size + 2) default := by rw [← hW0]; exact (row_at (by simp) _ (default : Se).cells).alloc _
  have hP : Boxed W0 (w.heap.size + 3) 88 (.pointer (some ⟨w.heap.size, 0, none⟩)) := by rw [← hW0]; exact boxed_at (by simp) _ _
  have hBW : Below w.heap.size w W0 := by rw [← hW0]; exact ((((Below.refl _ w).alloc (Nat.le_refl _) _).alloc (by simp) _).alloc (by simp; omega) _).alloc (by simp; omega) _
  rw [hW0]
  clear hW0
  refine wpIn_rangeL (w := W0) rfl (by omega) (gf := 80) (lb := #[.pointer (some ⟨w.heap.size + 3, 0, none⟩)]) rfl trivial (enters_of Tryd.func80 (by kernel_rfl) rfl)
    (ciphers_seq w.heap.size (w.heap.size + 3) _ 2 (by omega))
    (fun W hW => (hW.block _ (by omega)).trans hP) (by omega) (fun h => h) (fun h => h)
    (fun v hv => by obtain ⟨p, _, rfl⟩ := List.mem_map.1 hv; rfl)
    (fun k W => RowS W w.heap.size (s.mapTo (stripC n) k) ∧ Boxed W (w.heap.size + 1) 111 (.slice (some ⟨ab, 0, none⟩) 1 1) ∧ RowS W (w.heap.size + 2) default ∧ Below w.heap.size w W)
    (fun _ _ _ => False)
    (fun k W W' row ⟨h1, h2, h3, h4⟩ hg hr => ⟨h1.kept hg (fun e => by have := (hr _ e.symm).resolve_left (fun h => h); omega), h2.kept hg (fun e => by have := (hr _ e.symm).resolve_left (fun h => h); omega), h3.kept hg (fun e => by have := (hr _ e.symm).resolve_left (fun h => h); omega), h4.grown hg h4.size (fun r e => by have := (hr _ e).resolve_left (fun h => h); omega)⟩)
    (fun _ _ _ _ _ hs _ _ => hs.elim)
    ⟨hR, hY, hO, hBW⟩
    (fun k a' _ => k < 3 ∧ a' = { tmps := #[Value.agg #[Value.int IntKind.i64 s.x.a, Value.int IntKind.i64 s.x.b, Value.int IntKind.i64 s.y.a, Value.int IntKind.i64 s.y.b, Value.int IntKind.i64 s.z.a, Value.int IntKind.i64 s.z.b],
            Value.slice (some { block := ab, off := 0 }) 1 1, Value.pointer (some { block := w.heap.size, off := 0 }),
            Value.pointer (some { block := w.heap.size + 1, off := 0 }),
            Value.pointer (some { block := w.heap.size + 1 + 1, off := 0 }), .int .i64 (k : Int), .pointer (some ⟨w.heap.size, k * 2, none⟩), undef, undef,
            Value.func (Fn.func 80) #[] #[Value.pointer (some { block := w.heap.size + 1 + 1 + 1, off := 0 })], .int .i64 (k : Int), .pointer (some ⟨w.heap.size, k * 2, none⟩),
            undef, undef, undef, undef, undef, undef, undef, undef, undef, undef, undef, undef], defers := [] })
    (fun _ _ _ _ _ _ hs _ _ => hs) ?assign ?body ?done ?stop
  case assign =>
    intro l k v W K hI hv hsz hK
    obtain ⟨hk, rfl⟩ := ciVals_some hv
    clear hv
    unfold ciV
    gi_wp2
    exact hK _ _ (Kept.refl _ _) (SameOn.refl _ _) hI ⟨hk, rfl⟩
  case body =>
    rintro l k v a' W ⟨h1, h2, h3, h4⟩ ⟨hk, rfl⟩ hv hsz
    have c1 := h2.cell
    have c2 : W.cell? ⟨ab, 0, none⟩ = some (.func (.func 62) #[] #[.pointer (some ⟨bn, 0, none⟩)]) := Boxed.cell (show Boxed W ab _ _ from (h4.block ab hla).trans hab)
    have hk' : Boxed W bn 3 (.int .i64 n) := (h4.block bn hlk).trans hn
    have hg := mapTo_get (stripC n) s hk
    have hst := mapTo_set (stripC n) s hk
    obtain ⟨i1, i2⟩ := hs k hk
    rw [← hg] at i1 i2 hst
    have hcall := strip_in k hk (s.mapTo (stripC n) k) n w.heap.size bn W h1 hk' hn1 hn2 i1 i2
    rw [hst] at hcall
    have HC := Lib.hid hcall
    clear hcall hg hst hk' i1 i2 hv
    gi_wp2
    refine wpIn_loop_rounds 2 ?_
    rw [roundsIn_succ]
    gi_wp2_with (gi_at_call 62; refine (callsIn_wide.2 HC.out).mono ?_; rintro e w' ⟨⟨v', rfl⟩, hr1, hr2⟩)
    rw [roundsIn_succ]
    gi_wp2
    refine ⟨Kept.grown hr2 (by omega) (by simp; omega) (by simp; omega), ?_, hr1, h2.kept hr2 (by simp), h3.kept hr2 (by simp), h4.grown hr2 h4.size (fun r e => by cases e; exact Nat.le_refl _)⟩
    intro rr hrr
    have h5 : rr = w.heap.size + 3 := hrr
    subst h5
    exact hr2.block _ (by omega) (by simp)
  case done =>
    rintro W ⟨h1, h2, h3, h4⟩ hsz hD
    rw [ciVals_length, Se.mapTo_three] at h1
    obtain ⟨t, ht⟩ : ∃ t, s.map (stripC n) = t := ⟨_, rfl⟩
    rw [ht] at h1
    have HT := Lib.hid ht
    clear ht
    have c0 := Row.cell h1 0
    have c1 := Row.cell h1 1
    have c2 := Row.cell h1 2
    have c3 := Row.cell h1 3
    have c4 := Row.cell h1 4
    have c5 := Row.cell h1 5
    have f0 := Row.frozen h3 0
    have f1 := Row.frozen h3 1
    have f2 := Row.frozen h3 2
    have f3 := Row.frozen h3 3
    have f4 := Row.frozen h3 4
    have f5 := Row.frozen h3 5
    have e0 := Row.cell h3 0
    have e1 := Row.cell h3 1
    have e2 := Row.cell h3 2
    have e3 := Row.cell h3 3
    have e4 := Row.cell h3 4
    have e5 := Row.cell h3 5
    simp only [Se.cells, List.getElem?_cons_zero, List.getElem?_cons_succ] at c0 c1 c2 c3 c4 c5 e0 e1 e2 e3 e4 e5
    gi_wp2
    have h6 : RowS ((((((W.setCell ⟨w.heap.size + 1 + 1, 0, none⟩ (.int .i64 t.x.a)).setCell ⟨w.heap.size + 1 + 1, 1, none⟩ (.int .i64 t.x.b)).setCell ⟨w.heap.size + 1 + 1, 2, none⟩ (.int .i64 t.y.a)).setCell ⟨w.heap.size + 1 + 1, 3, none⟩ (.int .i64 t.y.b)).setCell ⟨w.heap.size + 1 + 1, 4, none⟩ (.int .i64 t.z.a)).setCell ⟨w.heap.size + 1 + 1, 5, none⟩ (.int .i64 t.z.b)) (w.heap.size + 1 + 1) t :=
      Row.store (Row.store (Row.store (Row.store (Row.store (Row.store h3 0 _) 1 _) 2 _) 3 _) 4 _) 5 _
    have hB6 : Below w.heap.size w ((((((W.setCell ⟨w.heap.size + 1 + 1, 0, none⟩ (.int .i64 t.x.a)).setCell ⟨w.heap.size + 1 + 1, 1, none⟩ (.int .i64 t.x.b)).setCell ⟨w.heap.size + 1 + 1, 2, none⟩ (.int .i64 t.y.a)).setCell ⟨w.heap.size + 1 + 1, 3, none⟩ (.int .i64 t.y.b)).setCell ⟨w.heap.size + 1 + 1, 4, none⟩ (.int .i64 t.z.a)).setCell ⟨w.heap.size + 1 + 1, 5, none⟩ (.int .i64 t.z.b)) :=
      (((((h4.setCell (by simp only []; omega) _).setCell (by simp only []; omega) _).setCell (by simp only []; omega) _).setCell (by simp only []; omega) _).setCell (by simp only []; omega) _).setCell (by simp only []; omega) _
    have hD6 : ((((((W.setCell ⟨w.heap.size + 1 + 1, 0, none⟩ (.int .i64 t.x.a)).setCell ⟨w.heap.size + 1 + 1, 1, none⟩ (.int .i64 t.x.b)).setCell ⟨w.heap.size + 1 + 1, 2, none⟩ (.int .i64 t.y.a)).setCell ⟨w.heap.size + 1 + 1, 3, none⟩ (.int .i64 t.y.b)).setCell ⟨w.heap.size + 1 + 1, 4, none⟩ (.int .i64 t.z.a)).setCell ⟨w.heap.size + 1 + 1, 5, none⟩ (.int .i64 t.z.b)).heap[W0.heap.size]? = some (.deferred (some [])) := by
      refine (Below.heap_setCell _ _ _ _ ?_).trans ((Below.heap_setCell _ _ _ _ ?_).trans ((Below.heap_setCell _ _ _ _ ?_).trans ((Below.heap_setCell _ _ _ _ ?_).trans ((Below.heap_setCell _ _ _ _ ?_).trans ((Below.heap_setCell _ _ _ _ ?_).trans hD))))) <;> (simp only []; omega)
    generalize ((((((W.setCell ⟨w.heap.size + 1 + 1, 0, none⟩ (.int .i64 t.x.a)).setCell ⟨w.heap.size + 1 + 1, 1, none⟩ (.int .i64 t.x.b)).setCell ⟨w.heap.size + 1 + 1, 2, none⟩ (.int .i64 t.y.a)).setCell ⟨w.heap.size + 1 + 1, 3, none⟩ (.int .i64 t.y.b)).setCell ⟨w.heap.size + 1 + 1, 4, none⟩ (.int .i64 t.z.a)).setCell ⟨w.heap.size + 1 + 1, 5, none⟩ (.int .i64 t.z.b)) = W6 at *
    refine ⟨by simp, .inl ⟨_, _, rfl, run_takeDeferred hD6, ?_⟩⟩
    have h7 := h6.kept (grownBy_putObj' _ W0.heap.size (.deferred none)) (by simp; omega)
    have d0 := Row.cell h7 0
    have d1 := Row.cell h7 1
    have d2 := Row.cell h7 2
    have d3 := Row.cell h7 3
    have d4 := Row.cell h7 4
    have d5 := Row.cell h7 5
    simp only [Se.cells, List.getElem?_cons_zero, List.getElem?_cons_succ] at d0 d1 d2 d3 d4 d5
    refine ⟨t.val, ?_, by rw [HT.out]; rfl, ?_⟩
    · simp [results, Tryd.f58, go_sem, d0, d1, d2, d3, d4, d5, Se.val]
    · exact hB6.grown (grownBy_putObj' _ W0.heap.size (.deferred none)) hB6.size (fun r e => by cases e; omega)
  case stop =>
    rintro c k W _ h _ _
    exact h.elim
end Go.Proofs.YtaheibbbdglcmaaDoor

set_option linter.unusedSimpArgs false
set_option linter.unusedVariables false
namespace Go.Proofs.YtaheibbbdglcmaaDoor
open Go.RowKit Go.Shelf Fk

theorem okC_bd {c : Ci} (h : okC c = true) : (0 ≤ c.a ∧ c.a < 2147483579) ∧ (0 ≤ c.b ∧ c.b < 2147483579) := by
  obtain ⟨h1, h2⟩ := okC_iff.1 h
  have a1 := vld_lo h1
  have a2 := vld_hi h1
  have a3 := vld_lo h2
  have a4 := vld_hi h2
  exact ⟨⟨by omega, a2⟩, by omega, a4⟩
theorem okS_inR {s : Se} (h : okS s = true) : inR s := fun k _ => okC_bd (okS_get h k)
/-- the six cells, one by one -/
theorem RowS.six {W : World} {b : Nat} {s : Se} (h : RowS W b s) : W.cell? ⟨b, 0, none⟩ = some (.int .i64 s.x.a) ∧ W.cell? ⟨b, 1, none⟩ = some (.int .i64 s.x.b) ∧ W.cell? ⟨b, 2, none⟩ = some (.int .i64 s.y.a) ∧
    W.cell? ⟨b, 3, none⟩ = some (.int .i64 s.y.b) ∧ W.cell? ⟨b, 4, none⟩ = some (.int .i64 s.z.a) ∧ W.cell? ⟨b, 5, none⟩ = some (.int .i64 s.z.b) :=
  ⟨Row.cell h 0, Row.cell h 1, Row.cell h 2, Row.cell h 3, Row.cell h 4, Row.cell h 5⟩
theorem RowS.free {W : World} {b : Nat} {s : Se} (h : RowS W b s) : W.frozen? ⟨b, 0, none⟩ = false ∧ W.frozen? ⟨b, 1, none⟩ = false ∧ W.frozen? ⟨b, 2, none⟩ = false ∧ W.frozen? ⟨b, 3, none⟩ = false ∧ W.frozen? ⟨b, 4, none⟩ = false ∧ W.frozen? ⟨b, 5, none⟩ = false :=
  ⟨Row.frozen h 0, Row.frozen h 1, Row.frozen h 2, Row.frozen h 3, Row.frozen h 4, Row.frozen h 5⟩
theorem RowT.three {W : World} {b : Nat} {ty : TypeId} {t : Tr} (h : Row W b ty t.cells) : W.cell? ⟨b, 0, none⟩ = some (.int .i64 t.p) ∧ W.cell? ⟨b, 1, none⟩ = some (.int .i64 t.q) ∧ W.cell? ⟨b, 2, none⟩ = some (.int .i64 t.r) :=
  ⟨Row.cell h 0, Row.cell h 1, Row.cell h 2⟩
theorem RowT.free {W : World} {b : Nat} {ty : TypeId} {t : Tr} (h : Row W b ty t.cells) : W.frozen? ⟨b, 0, none⟩ = false ∧ W.frozen? ⟨b, 1, none⟩ = false ∧ W.frozen? ⟨b, 2, none⟩ = false :=
  ⟨Row.frozen h 0, Row.frozen h 1, Row.frozen h 2⟩
end Go.Proofs.YtaheibbbdglcmaaDoor

set_option linter.unusedSimpArgs false
set_option linter.unusedVariables false
namespace Go.Proofs.YtaheibbbdglcmaaDoor
open Go.RowKit Go.Shelf Fk

/-- the world's own blocks in Strip, while others come -/
structure Sp (w : World) (n : Int) (s : Se) (W : World) : Prop where
  n : Boxed W w.heap.size 3 (.int .i64 n)
  s : RowS W (w.heap.size + 1) s
  o : RowS W (w.heap.size + 1 + 1) default
  b : Below w.heap.size w W
theorem Sp.below {w W W' : World} {n : Int} {s : Se} (h : Sp w n s W) (hb : Below W.heap.size W W') : Sp w n s W' :=
  ⟨Row.keep (vs := [.int .i64 n]) h.n (hb.block _ (Boxed.lt h.n)), Row.keep h.s (hb.block _ (Row.lt h.s)), Row.keep h.o (hb.block _ (Row.lt h.o)), h.b.trans (hb.mono h.b.size)⟩
theorem Sp.start (n : Int) (s : Se) (w : World) : Sp w n s (((w.alloc (.cells #[.int .i64 n] 3)).alloc (.cells s.cells.toArray 55)).alloc (.cells (default : Se).cells.toArray 55)) :=
  ⟨((Boxed.new w _ _).alloc _).alloc _, (row_at (by simp) _ _).alloc _, row_at (by simp) _ _, (((Below.refl _ w).alloc (Nat.le_refl _) _).alloc (by simp) _).alloc (by simp; omega) _⟩

set_option maxRecDepth 100000 in
set_option maxHeartbeats 2000000 in
theorem strp_no (n : Int) (s : Se) (w : World) (hv : secB n = false) :
    Calls Tryd.prog 34 #[.int .i64 n, s.val] w fun e w' => e = .returned (.tuple #[(default : Se).val, .int .i64 110]) ∧ Below w.heap.size w w' := by
  have hA := Sp.start n s w
  unfold Se.val
  go_enter Tryd.func34, Tryd.ntmps34
  go_wp2_with (go_at_call 54; refine (secret_any _ _).mono ?_; rintro e w1 ⟨rfl, rfl⟩)
  exact bodyPost_ret (v := .tuple #[.agg #[.int .i64 0, .int .i64 0, .int .i64 0, .int .i64 0, .int .i64 0, .int .i64 0], .int .i64 110]) (by simp [results, Tryd.results34, go_sem]) rfl ⟨rfl, hA.b⟩

set_option maxRecDepth 100000 in
set_option maxHeartbeats 2000000 in
theorem strp_bad (n : Int) (s : Se) (w : World) (hv : secB n = true) (hc : okS s = false) :
    Calls Tryd.prog 34 #[.int .i64 n, s.val] w fun e w' => e = .returned (.tuple #[(default : Se).val, .int .i64 100]) ∧ Below w.heap.size w w' := by
  have hch := fun w => echeck_any s w
  have e3 : chS s = 100 := by unfold chS; rw [hc]; rfl
  rw [e3] at hch
  have hA := fun (W : World) (hb : Below (((w.alloc (.cells #[.int .i64 n] 3)).alloc (.cells s.cells.toArray 55)).alloc (.cells (default : Se).cells.toArray 55)).heap.size (((w.alloc (.cells #[.int .i64 n] 3)).alloc (.cells s.cells.toArray 55)).alloc (.cells (default : Se).cells.toArray 55)) W) => (Sp.start n s w).below hb
  unfold Se.val at hch
  obtain ⟨D, hD⟩ : ∃ D : Se, (default : Se) = D := ⟨_, rfl⟩
  have HD := Lib.hid hD
  have HCH := Lib.hid hch
  have HA := Lib.hid hA
  clear e3 hch hA hD
  unfold Se.val
  go_enter Tryd.func34, Tryd.ntmps34
  go_wp2_with (first
    | (go_at_call 54; refine (secret_any _ _).mono ?_; rintro e w1 ⟨rfl, rfl⟩)
    | (go_at_call 60; refine (HCH.out _).mono ?_; rintro e w1 ⟨rfl, hb⟩; replace hb := HA.out _ hb; have ho := hb.o; rw [HD.out] at ho; obtain ⟨q0, q1, q2, q3, q4, q5⟩ := ho.six; obtain ⟨f0, f1, f2, f3, f4, f5⟩ := ho.free))
  have h6 : RowS ((((((w1.setCell ⟨w.heap.size + 1 + 1, 0, none⟩ (.int .i64 D.x.a)).setCell ⟨w.heap.size + 1 + 1, 1, none⟩ (.int .i64 D.x.b)).setCell ⟨w.heap.size + 1 + 1, 2, none⟩ (.int .i64 D.y.a)).setCell ⟨w.heap.size + 1 + 1, 3, none⟩ (.int .i64 D.y.b)).setCell ⟨w.heap.size + 1 + 1, 4, none⟩ (.int .i64 D.z.a)).setCell ⟨w.heap.size + 1 + 1, 5, none⟩ (.int .i64 D.z.b)) (w.heap.size + 1 + 1) D := Row.store (Row.store (Row.store (Row.store (Row.store (Row.store ho 0 _) 1 _) 2 _) 3 _) 4 _) 5 _
  have hB6 : Below w.heap.size w ((((((w1.setCell ⟨w.heap.size + 1 + 1, 0, none⟩ (.int .i64 D.x.a)).setCell ⟨w.heap.size + 1 + 1, 1, none⟩ (.int .i64 D.x.b)).setCell ⟨w.heap.size + 1 + 1, 2, none⟩ (.int .i64 D.y.a)).setCell ⟨w.heap.size + 1 + 1, 3, none⟩ (.int .i64 D.y.b)).setCell ⟨w.heap.size + 1 + 1, 4, none⟩ (.int .i64 D.z.a)).setCell ⟨w.heap.size + 1 + 1, 5, none⟩ (.int .i64 D.z.b)) := (((((hb.b.setCell (by simp only []; omega) _).setCell (by simp only []; omega) _).setCell (by simp only []; omega) _).setCell (by simp only []; omega) _).setCell (by simp only []; omega) _).setCell (by simp only []; omega) _
  generalize ((((((w1.setCell ⟨w.heap.size + 1 + 1, 0, none⟩ (.int .i64 D.x.a)).setCell ⟨w.heap.size + 1 + 1, 1, none⟩ (.int .i64 D.x.b)).setCell ⟨w.heap.size + 1 + 1, 2, none⟩ (.int .i64 D.y.a)).setCell ⟨w.heap.size + 1 + 1, 3, none⟩ (.int .i64 D.y.b)).setCell ⟨w.heap.size + 1 + 1, 4, none⟩ (.int .i64 D.z.a)).setCell ⟨w.heap.size + 1 + 1, 5, none⟩ (.int .i64 D.z.b)) = W6 at *
  obtain ⟨p0, p1, p2, p3, p4, p5⟩ := h6.six
  exact bodyPost_ret (v := .tuple #[.agg #[.int .i64 D.x.a, .int .i64 D.x.b, .int .i64 D.y.a, .int .i64 D.y.b, .int .i64 D.z.a, .int .i64 D.z.b], .int .i64 100]) (by simp [results, Tryd.results34, go_sem, p0, p1, p2, p3, p4, p5]) rfl ⟨by rw [← HD.out], hB6⟩

set_option maxRecDepth 100000 in
set_option maxHeartbeats 2000000 in
theorem strp_ok (n : Int) (s : Se) (w : World) (hv : secB n = true) (hc : okS s = true) :
    Calls Tryd.prog 34 #[.int .i64 n, s.val] w fun e w' => e = .returned (.tuple #[(s.map (stripC n)).val, .int .i64 0]) ∧ Below w.heap.size w w' := by
  have hch := fun w => echeck_any s w
  have e3 : chS s = 0 := by unfold chS; rw [hc]; rfl
  rw [e3] at hch
  have hin := okS_inR hc
  have hn : 1 ≤ n ∧ n < 1073741789 := by simpa [secB] using hv
  have hA := fun (W : World) (hb : Below (((w.alloc (.cells #[.int .i64 n] 3)).alloc (.cells s.cells.toArray 55)).alloc (.cells (default : Se).cells.toArray 55)).heap.size (((w.alloc (.cells #[.int .i64 n] 3)).alloc (.cells s.cells.toArray 55)).alloc (.cells (default : Se).cells.toArray 55)) W) => (Sp.start n s w).below hb
  have hcall := fun (bn ab : Nat) (W : World) => changed_strip s n bn ab W hin hn.1 hn.2
  obtain ⟨t, ht⟩ : ∃ t : Se, s.map (stripC n) = t := ⟨_, rfl⟩
  rw [ht] at hcall ⊢
  unfold Se.val at hch hcall
  have HC := Lib.hid hcall
  have HCH := Lib.hid hch
  have HA := Lib.hid hA
  clear e3 hch hA hcall hin ht hn
  unfold Se.val
  go_enter Tryd.func34, Tryd.ntmps34
  go_wp2_with (first
    | (go_at_call 54; refine (secret_any _ _).mono ?_; rintro e w1 ⟨rfl, rfl⟩)
    | (go_at_call 60; refine (HCH.out _).mono ?_; rintro e w1 ⟨rfl, hb⟩; replace hb := HA.out _ hb; have hs6 := hb.s; obtain ⟨q0, q1, q2, q3, q4, q5⟩ := hs6.six; clear hs6)
    | (go_at_call 58; refine (HC.out _ _ _ (hb.n.alloc _) (Boxed.new _ _ _)).mono ?_; rintro e w3 ⟨rfl, hb4⟩; clear q0 q1 q2 q3 q4 q5; replace hb := (hb.below (below_alloc _ _)).below hb4; clear hb4; have ho := hb.o; obtain ⟨q0, q1, q2, q3, q4, q5⟩ := ho.six; obtain ⟨f0, f1, f2, f3, f4, f5⟩ := ho.free))
  have h6 : RowS ((((((w3.setCell ⟨w.heap.size + 1 + 1, 0, none⟩ (.int .i64 t.x.a)).setCell ⟨w.heap.size + 1 + 1, 1, none⟩ (.int .i64 t.x.b)).setCell ⟨w.heap.size + 1 + 1, 2, none⟩ (.int .i64 t.y.a)).setCell ⟨w.heap.size + 1 + 1, 3, none⟩ (.int .i64 t.y.b)).setCell ⟨w.heap.size + 1 + 1, 4, none⟩ (.int .i64 t.z.a)).setCell ⟨w.heap.size + 1 + 1, 5, none⟩ (.int .i64 t.z.b)) (w.heap.size + 1 + 1) t := Row.store (Row.store (Row.store (Row.store (Row.store (Row.store ho 0 _) 1 _) 2 _) 3 _) 4 _) 5 _
  have hB6 : Below w.heap.size w ((((((w3.setCell ⟨w.heap.size + 1 + 1, 0, none⟩ (.int .i64 t.x.a)).setCell ⟨w.heap.size + 1 + 1, 1, none⟩ (.int .i64 t.x.b)).setCell ⟨w.heap.size + 1 + 1, 2, none⟩ (.int .i64 t.y.a)).setCell ⟨w.heap.size + 1 + 1, 3, none⟩ (.int .i64 t.y.b)).setCell ⟨w.heap.size + 1 + 1, 4, none⟩ (.int .i64 t.z.a)).setCell ⟨w.heap.size + 1 + 1, 5, none⟩ (.int .i64 t.z.b)) := (((((hb.b.setCell (by simp only []; omega) _).setCell (by simp only []; omega) _).setCell (by simp only []; omega) _).setCell (by simp only []; omega) _).setCell (by simp only []; omega) _).setCell (by simp only []; omega) _
  generalize ((((((w3.setCell ⟨w.heap.size + 1 + 1, 0, none⟩ (.int .i64 t.x.a)).setCell ⟨w.heap.size + 1 + 1, 1, none⟩ (.int .i64 t.x.b)).setCell ⟨w.heap.size + 1 + 1, 2, none⟩ (.int .i64 t.y.a)).setCell ⟨w.heap.size + 1 + 1, 3, none⟩ (.int .i64 t.y.b)).setCell ⟨w.heap.size + 1 + 1, 4, none⟩ (.int .i64 t.z.a)).setCell ⟨w.heap.size + 1 + 1, 5, none⟩ (.int .i64 t.z.b)) = W6 at *
  obtain ⟨p0, p1, p2, p3, p4, p5⟩ := h6.six
  exact bodyPost_ret (v := .tuple #[.agg #[.int .i64 t.x.a, .int .i64 t.x.b, .int .i64 t.y.a, .int .i64 t.y.b, .int .i64 t.z.a, .int .i64 t.z.b], .int .i64 0]) (by simp [results, Tryd.results34, go_sem, p0, p1, p2, p3, p4, p5]) rfl ⟨rfl, hB6⟩
theorem strp_any (n : Int) (s : Se) (w : World) :
    Calls Tryd.prog 34 #[.int .i64 n, s.val] w fun e w' => e = .returned (.tuple #[(strpC n s).val, .int .i64 (strpE n s)]) ∧ Below w.heap.size w w' := by
  cases hv : secB n with
  | false =>
    have e1 : strpC n s = default := by unfold strpC; rw [hv]; rfl
    have e2 : strpE n s = 110 := by unfold strpE; rw [hv]; rfl
    rw [e1, e2]; exact strp_no n s w hv
  | true =>
    cases hc : okS s with
    | false =>
      have e1 : strpC n s = default := by unfold strpC; rw [hv, hc]; rfl
      have e2 : strpE n s = 100 := by unfold strpE chS; rw [hv, hc]; rfl
      rw [e1, e2]; exact strp_bad n s w hv hc
    | true =>
      have e1 : strpC n s = s.map (stripC n) := by unfold strpC; rw [hv, hc]; rfl
      have e2 : strpE n s = 0 := by unfold strpE chS; rw [hv, hc]; rfl
      rw [e1, e2]; exact strp_ok n s w hv hc
end Go.Proofs.YtaheibbbdglcmaaDoor

set_option linter.unusedSimpArgs false
set_option linter.unusedVariables false
namespace Go.Proofs.YtaheibbbdglcmaaDoor
open Go.RowKit Go.Shelf Fk

set_option maxRecDepth 100000 in
set_option maxHeartbeats 2000000 in
theorem seal_no (key : Int) (t r : Tr) (w : World) (hv : vld key = false) :
    Calls Tryd.prog 30 #[.int .i64 key, t.val, r.val] w fun e w' => e = .returned (.tuple #[(default : Se).val, .int .i64 90]) ∧ Below w.heap.size w w' := by
  have hB : Below w.heap.size w (((w.alloc (.cells t.cells.toArray 50)).alloc (.cells r.cells.toArray 49)).alloc (.cells (default : Se).cells.toArray 55)) := (((Below.refl _ w).alloc (Nat.le_refl _) _).alloc (by simp) _).alloc (by simp; omega) _
  unfold Se.val Tr.val
  go_enter Tryd.func30, Tryd.ntmps30
  go_wp2_with (go_at_call 37; refine (valid_any _ _).mono ?_; rintro e w1 ⟨rfl, rfl⟩)
  exact bodyPost_ret (v := .tuple #[.agg #[.int .i64 0, .int .i64 0, .int .i64 0, .int .i64 0, .int .i64 0, .int .i64 0], .int .i64 90]) (by simp [results, Tryd.results30, go_sem]) rfl ⟨rfl, hB⟩

theorem elE_one {n : Int} (h : elE n ≠ 0) : elE n = 1 := by unfold elE at *; split at h <;> simp_all
theorem idx0 (t : Tr) (w : World) : (Instr.index 50 (.agg #[.int .i64 t.p, .int .i64 t.q, .int .i64 t.r]) (.int .i64 0)).run Tryd.prog w = .ok (.int .i64 t.p) w := by kernel_rfl
theorem idx1 (t : Tr) (w : World) : (Instr.index 50 (.agg #[.int .i64 t.p, .int .i64 t.q, .int .i64 t.r]) (.int .i64 1)).run Tryd.prog w = .ok (.int .i64 t.q) w := by kernel_rfl
theorem idx2 (t : Tr) (w : World) : (Instr.index 50 (.agg #[.int .i64 t.p, .int .i64 t.q, .int .i64 t.r]) (.int .i64 2)).run Tryd.prog w = .ok (.int .i64 t.r) w := by kernel_rfl
set_option maxRecDepth 100000 in
set_option maxHeartbeats 4000000 in
theorem seal_bad (key : Int) (t r : Tr) (w : World) (hv : vld key = true) (hw : wOK t = false) :
    Calls Tryd.prog 30 #[.int .i64 key, t.val, r.val] w fun e w' => e = .returned (.tuple #[(default : Se).val, .int .i64 100]) ∧ Below w.heap.size w w' := by
  have hB := fun (X : Obj) => (((Below.refl w.heap.size w).alloc (Nat.le_refl _) (.cells t.cells.toArray 50)).alloc (by simp) (.cells r.cells.toArray 49)).alloc (by simp; omega) X
  have HB := Lib.hid hB
  clear hB
  have hE := fun (n : Int) (w : World) => element_any n w
  have i0 := idx0 t
  have i1 := idx1 t
  have i2 := idx2 t
  unfold Se.val Tr.val
  by_cases h1 : elE t.p = 0
  · by_cases h2 : elE t.q = 0
    · have h3 : elE t.r ≠ 0 := fun h3 => by simp [wOK, h1, h2, h3] at hw
      have e1 := hE t.p
      have e2 := hE t.q
      have e3 := hE t.r
      rw [h1] at e1
      rw [h2] at e2
      rw [elE_one h3] at e3
      generalize elC t.p = x1 at e1
      generalize elC t.q = x2 at e2
      generalize elC t.r = x3 at e3
      have E1 := Lib.hid e1
      have E2 := Lib.hid e2
      have E3 := Lib.hid e3
      clear hE e1 e2 e3 h1 h2 h3 hw
      go_enter Tryd.func30, Tryd.ntmps30
      go_wp2_with (go_at_call 37; refine (valid_any _ _).mono ?_; rintro e w1 ⟨rfl, rfl⟩)
      refine wp_loop_rounds 3 ?_
      rw [rounds_succ]
      go_wp2_with (go_at_call 11; refine (E1.out _).mono ?_; rintro e w1 ⟨rfl, rfl⟩)
      rw [rounds_succ]
      go_wp2_with (go_at_call 11; refine (E2.out _).mono ?_; rintro e w1 ⟨rfl, rfl⟩)
      rw [rounds_succ]
      go_wp2_with (go_at_call 11; refine (E3.out _).mono ?_; rintro e w1 ⟨rfl, rfl⟩)
      exact bodyPost_ret (v := .tuple #[.agg #[.int .i64 0, .int .i64 0, .int .i64 0, .int .i64 0, .int .i64 0, .int .i64 0], .int .i64 100]) (by simp [results, Tryd.results30, go_sem]) rfl ⟨rfl, HB.out _⟩
    · have e1 := hE t.p
      have e2 := hE t.q
      rw [h1] at e1
      rw [elE_one h2] at e2
      generalize elC t.p = x1 at e1
      generalize elC t.q = x2 at e2
      have E1 := Lib.hid e1
      have E2 := Lib.hid e2
      clear hE e1 e2 h1 h2 hw
      go_enter Tryd.func30, Tryd.ntmps30
      go_wp2_with (go_at_call 37; refine (valid_any _ _).mono ?_; rintro e w1 ⟨rfl, rfl⟩)
      refine wp_loop_rounds 2 ?_
      rw [rounds_succ]
      go_wp2_with (go_at_call 11; refine (E1.out _).mono ?_; rintro e w1 ⟨rfl, rfl⟩)
      rw [rounds_succ]
      go_wp2_with (go_at_call 11; refine (E2.out _).mono ?_; rintro e w1 ⟨rfl, rfl⟩)
      exact bodyPost_ret (v := .tuple #[.agg #[.int .i64 0, .int .i64 0, .int .i64 0, .int .i64 0, .int .i64 0, .int .i64 0], .int .i64 100]) (by simp [results, Tryd.results30, go_sem]) rfl ⟨rfl, HB.out _⟩
  · have e1 := hE t.p
    rw [elE_one h1] at e1
    generalize elC t.p = x1 at e1
    have E1 := Lib.hid e1
    clear hE e1 h1 hw
    go_enter Tryd.func30, Tryd.ntmps30
    go_wp2_with (go_at_call 37; refine (valid_any _ _).mono ?_; rintro e w1 ⟨rfl, rfl⟩)
    refine wp_loop_rounds 1 ?_
    rw [rounds_succ]
    go_wp2_with (go_at_call 11; refine (E1.out _).mono ?_; rintro e w1 ⟨rfl, rfl⟩)
    exact bodyPost_ret (v := .tuple #[.agg #[.int .i64 0, .int .i64 0, .int .i64 0, .int .i64 0, .int .i64 0, .int .i64 0], .int .i64 100]) (by simp [results, Tryd.results30, go_sem]) rfl ⟨rfl, HB.out _⟩

/-- the world's own blocks in Seal, while others come -/
structure Sa (w : World) (r : Tr) (s : Se) (W : World) : Prop where
  r : Row W (w.heap.size + 1) 49 r.cells
  o : RowS W (w.heap.size + 1 + 1) s
  b : Below w.heap.size w W
theorem Sa.below {w W W' : World} {r : Tr} {s : Se} (h : Sa w r s W) (hb : Below W.heap.size W W') : Sa w r s W' :=
  ⟨Row.keep h.r (hb.block _ (Row.lt h.r)), Row.keep h.o (hb.block _ (Row.lt h.o)), h.b.trans (hb.mono h.b.size)⟩
theorem Sa.start (t r : Tr) (s : Se) (w : World) : Sa w r s (((w.alloc (.cells t.cells.toArray 50)).alloc (.cells r.cells.toArray 49)).alloc (.cells s.cells.toArray 55)) :=
  ⟨(row_at (by simp) _ _).alloc _, row_at (by simp) _ _, (((Below.refl _ w).alloc (Nat.le_refl _) _).alloc (by simp) _).alloc (by simp; omega) _⟩
theorem elC_bd {n : Int} (h : elE n = 0) : vld (elC n) = true := by
  have : 1 ≤ n ∧ n ≤ 1073741789 := elE_iff.1 (by rw [h]; rfl)
  exact vld_el this.1 this.2
theorem seal0_ok {t : Tr} (h : wOK t = true) : okS (seal0 t) = true := by
  simp only [wOK, Bool.and_eq_true, beq_iff_eq] at h
  obtain ⟨h1, h2, h3⟩ := h
  refine okS_iff.2 ⟨okC_iff.2 ⟨vld_1, elC_bd h1⟩, okC_iff.2 ⟨vld_1, elC_bd h2⟩, okC_iff.2 ⟨vld_1, elC_bd h3⟩⟩

set_option maxRecDepth 100000 in
set_option maxHeartbeats 4000000 in
theorem seal_ok (key : Int) (t r : Tr) (w : World) (hv : vld key = true) (hw : wOK t = true) :
    Calls Tryd.prog 30 #[.int .i64 key, t.val, r.val] w fun e w' => e = .returned (.tuple #[((seal0 t).map (moreC key r)).val, .int .i64 0]) ∧ Below w.heap.size w w' := by
  have hin := okS_inR (seal0_ok hw)
  have hcall := fun (br bk ab : Nat) (W : World) => changed_more (seal0 t) key r br bk ab W hin
  have hA := Sa.start t r (seal0 t) w
  have hE := fun (n : Int) (w : World) => element_any n w
  have i0 := idx0 t
  have i1 := idx1 t
  have i2 := idx2 t
  simp only [wOK, Bool.and_eq_true, beq_iff_eq] at hw
  obtain ⟨h1, h2, h3⟩ := hw
  have e1 := hE t.p
  have e2 := hE t.q
  have e3 := hE t.r
  rw [h1] at e1
  rw [h2] at e2
  rw [h3] at e3
  obtain ⟨S, hS⟩ : ∃ S : Se, (seal0 t).map (moreC key r) = S := ⟨_, rfl⟩
  rw [hS] at hcall ⊢
  unfold Se.val seal0 at hcall
  unfold seal0 at hA
  generalize elC t.p = x1 at e1 hcall hA
  generalize elC t.q = x2 at e2 hcall hA
  generalize elC t.r = x3 at e3 hcall hA
  have E1 := Lib.hid e1
  have E2 := Lib.hid e2
  have E3 := Lib.hid e3
  have HC := Lib.hid hcall
  have HA := Lib.hid hA
  clear hE e1 e2 e3 h1 h2 h3 hcall hA hin hS
  unfold Se.val Tr.val
  go_enter Tryd.func30, Tryd.ntmps30
  go_wp2_with (go_at_call 37; refine (valid_any _ _).mono ?_; rintro e w1 ⟨rfl, rfl⟩)
  refine wp_loop_rounds 4 ?_
  rw [rounds_succ]
  go_wp2_with (go_at_call 11; refine (E1.out _).mono ?_; rintro e w1 ⟨rfl, rfl⟩)
  rw [rounds_succ]
  go_wp2_with (go_at_call 11; refine (E2.out _).mono ?_; rintro e w1 ⟨rfl, rfl⟩)
  rw [rounds_succ]
  go_wp2_with (go_at_call 11; refine (E3.out _).mono ?_; rintro e w1 ⟨rfl, rfl⟩)
  rw [rounds_succ]
  go_wp2_with fail
  have hb := HA.out
  obtain ⟨W1, hW1⟩ : ∃ W1 : World, (((w.alloc (.cells #[.int .i64 t.p, .int .i64 t.q, .int .i64 t.r] 50)).alloc (.cells #[.int .i64 r.p, .int .i64 r.q, .int .i64 r.r] 49)).alloc (.cells #[.int .i64 1, .int .i64 x1, .int .i64 1, .int .i64 x2, .int .i64 1, .int .i64 x3] 55)) = W1 := ⟨_, rfl⟩
  rw [hW1]
  replace hb : Sa w r ⟨⟨1, x1⟩, ⟨1, x2⟩, ⟨1, x3⟩⟩ W1 := by rw [← hW1]; exact hb
  clear hW1 HA
  refine wp_region_ord 6 [(1, 0), (1, 1), (1, 2), (2, 3), (2, 4), (2, 5)] (Sa w r ⟨⟨1, x1⟩, ⟨1, x2⟩, ⟨1, x3⟩⟩) (by kernel_rfl) (by kernel_rfl) (fun _ _ d _ _ h => by cases d <;> exact h) (hb.below (Below.refl _ _).drew) ?_
  replace hb := hb.below (Below.refl _ _).drew
  iterate 3
    refine wpOrd_take (v := ?_) rfl (by rfl) (fun w hSw => ?_) ?_
    rotate_left 1
    · obtain ⟨q0, q1, q2, q3, q4, q5⟩ := hSw.o.six
      obtain ⟨r0, r1, r2⟩ := RowT.three hSw.r
      clear hSw
      go_simp
      with_reducible rfl
    simp only [Act.put, List.setIfInBounds_toArray, List.set_cons_zero, List.set_cons_succ]
  refine wpOrd_step rfl (fun K hK => ⟨by rfl, ?_⟩)
  go_simp
  go_at_call 59
  refine (more_any key r _).mono ?_
  rintro e w2 ⟨rfl, hw⟩
  have hb2 : Below W1.drew.heap.size W1.drew w2 := by rw [← hw]; exact ((Below.refl _ _).alloc (Nat.le_refl _) _).alloc (by simp) _
  have hk2 : Boxed w2 W1.drew.heap.size 3 (.int .i64 key) := by rw [← hw]; exact (Boxed.new _ _ _).alloc _
  have hr2 : Row w2 (W1.drew.heap.size + 1) 49 r.cells := by rw [← hw]; exact row_at (by simp) _ _
  clear hw
  replace hb := hb.below hb2
  refine hK _ _ hb ?_
  clear hK K hb2
  refine wpOrd_step rfl (fun K hK => ⟨by rfl, ?_⟩)
  go_simp
  have hb3 := hb.below (below_alloc w2 (Obj.cells #[.func (.func 79) #[] #[.pointer (some ⟨W1.drew.heap.size + 1, 0, none⟩), .pointer (some ⟨W1.drew.heap.size, 0, none⟩)]] 83))
  refine hK _ _ hb3 ?_
  clear hK K
  refine wpOrd_step rfl (fun K hK => ⟨by rfl, ?_⟩)
  go_simp
  go_at_call 58
  refine (HC.out _ _ _ _ (hr2.alloc _) (hk2.alloc _) (Boxed.new _ _ _)).mono ?_
  rintro e w3 ⟨rfl, hb4⟩
  replace hb := hb3.below hb4
  refine hK _ _ hb ?_
  clear hK K hb3 hb4 hr2 hk2
  refine wpOrd_nil ?_
  simp only [List.drop_succ_cons, List.drop_zero]
  have ho := hb.o
  obtain ⟨f0, f1, f2, f3, f4, f5⟩ := ho.free
  obtain ⟨q0, q1, q2, q3, q4, q5⟩ := ho.six
  go_wp2_with fail
  have h6 : RowS ((((((w3.setCell ⟨w.heap.size + 1 + 1, 0, none⟩ (.int .i64 S.x.a)).setCell ⟨w.heap.size + 1 + 1, 1, none⟩ (.int .i64 S.x.b)).setCell ⟨w.heap.size + 1 + 1, 2, none⟩ (.int .i64 S.y.a)).setCell ⟨w.heap.size + 1 + 1, 3, none⟩ (.int .i64 S.y.b)).setCell ⟨w.heap.size + 1 + 1, 4, none⟩ (.int .i64 S.z.a)).setCell ⟨w.heap.size + 1 + 1, 5, none⟩ (.int .i64 S.z.b)) (w.heap.size + 1 + 1) S := Row.store (Row.store (Row.store (Row.store (Row.store (Row.store ho 0 _) 1 _) 2 _) 3 _) 4 _) 5 _
  have hB6 : Below w.heap.size w ((((((w3.setCell ⟨w.heap.size + 1 + 1, 0, none⟩ (.int .i64 S.x.a)).setCell ⟨w.heap.size + 1 + 1, 1, none⟩ (.int .i64 S.x.b)).setCell ⟨w.heap.size + 1 + 1, 2, none⟩ (.int .i64 S.y.a)).setCell ⟨w.heap.size + 1 + 1, 3, none⟩ (.int .i64 S.y.b)).setCell ⟨w.heap.size + 1 + 1, 4, none⟩ (.int .i64 S.z.a)).setCell ⟨w.heap.size + 1 + 1, 5, none⟩ (.int .i64 S.z.b)) := (((((hb.b.setCell (by simp only []; omega) _).setCell (by simp only []; omega) _).setCell (by simp only []; omega) _).setCell (by simp only []; omega) _).setCell (by simp only []; omega) _).setCell (by simp only []; omega) _
  generalize ((((((w3.setCell ⟨w.heap.size + 1 + 1, 0, none⟩ (.int .i64 S.x.a)).setCell ⟨w.heap.size + 1 + 1, 1, none⟩ (.int .i64 S.x.b)).setCell ⟨w.heap.size + 1 + 1, 2, none⟩ (.int .i64 S.y.a)).setCell ⟨w.heap.size + 1 + 1, 3, none⟩ (.int .i64 S.y.b)).setCell ⟨w.heap.size + 1 + 1, 4, none⟩ (.int .i64 S.z.a)).setCell ⟨w.heap.size + 1 + 1, 5, none⟩ (.int .i64 S.z.b)) = W6 at *
  obtain ⟨p0, p1, p2, p3, p4, p5⟩ := h6.six
  exact bodyPost_ret (v := .tuple #[.agg #[.int .i64 S.x.a, .int .i64 S.x.b, .int .i64 S.y.a, .int .i64 S.y.b, .int .i64 S.z.a, .int .i64 S.z.b], .int .i64 0]) (by simp [results, Tryd.results30, go_sem, p0, p1, p2, p3, p4, p5]) rfl ⟨rfl, hB6⟩
theorem seal_any (key : Int) (t r : Tr) (w : World) :
    Calls Tryd.prog 30 #[.int .i64 key, t.val, r.val] w fun e w' => e = .returned (.tuple #[(sealC key t r).val, .int .i64 (sealE key t)]) ∧ Below w.heap.size w w' := by
  cases hv : vld key with
  | false =>
    have e1 : sealC key t r = default := by unfold sealC; rw [hv]; rfl
    have e2 : sealE key t = 90 := by unfold sealE; rw [hv]; rfl
    rw [e1, e2]; exact seal_no key t r w hv
  | true =>
    cases hw : wOK t with
    | false =>
      have e1 : sealC key t r = default := by unfold sealC; rw [hv, hw]; rfl
      have e2 : sealE key t = 100 := by unfold sealE; rw [hv, hw]; rfl
      rw [e1, e2]; exact seal_bad key t r w hv hw
    | true =>
      have e1 : sealC key t r = (seal0 t).map (moreC key r) := by unfold sealC; rw [hv, hw]; rfl
      have e2 : sealE key t = 0 := by unfold sealE; rw [hv, hw]; rfl
      rw [e1, e2]; exact seal_ok key t r w hv hw
end Go.Proofs.YtaheibbbdglcmaaDoor

set_option linter.unusedSimpArgs false
set_option linter.unusedVariables false
namespace Go.Proofs.YtaheibbbdglcmaaDoor
open Go.RowKit Go.Shelf Fk
attribute [local go_sem] Oper.semAt_some wide_fn'
def readTo (s : Se) (k : Nat) : Tr := ⟨if 0 < k then numC s.x.b else 0, if 1 < k then numC s.y.b else 0, if 2 < k then numC s.z.b else 0⟩
theorem readTo_set (s : Se) {k : Nat} (h : k < 3) : (readTo s k).cells.set k (.int .i64 (numC (s.get k).b)) = (readTo s (k + 1)).cells := by
  rcases (show k = 0 ∨ k = 1 ∨ k = 2 by omega) with rfl | rfl | rfl <;> rfl

set_option maxRecDepth 100000 in
set_option maxHeartbeats 2000000 in
theorem read_bad (s : Se) (w : World) (hc : okS s = false) :
    Calls Tryd.prog 33 #[s.val] w fun e w' => e = .returned (.tuple #[(default : Tr).val, .int .i64 100]) ∧ Below w.heap.size w w' := by
  have hch := fun w => echeck_any s w
  have e3 : chS s = 100 := by unfold chS; rw [hc]; rfl
  rw [e3] at hch
  have hA : ∀ W, Below ((w.alloc (.cells s.cells.toArray 55)).alloc (.cells (default : Tr).cells.toArray 50)).heap.size ((w.alloc (.cells s.cells.toArray 55)).alloc (.cells (default : Tr).cells.toArray 50)) W →
      Row W (w.heap.size + 1) 50 (default : Tr).cells ∧ Below w.heap.size w W := fun W hb =>
    ⟨Row.keep (row_at (w := w.alloc (.cells s.cells.toArray 55)) (by simp) 50 (default : Tr).cells) (hb.block _ (by simp)), (((Below.refl _ w).alloc (Nat.le_refl _) _).alloc (by simp) _).trans (hb.mono (by simp; omega))⟩
  unfold Se.val at hch
  have HCH := Lib.hid hch
  have HA := Lib.hid hA
  clear e3 hch hA
  unfold Se.val
  go_enter Tryd.func33, Tryd.ntmps33
  go_wp2_with (go_at_call 60; refine (HCH.out _).mono ?_; rintro e w1 ⟨rfl, hb⟩; obtain ⟨ho, hb⟩ := HA.out _ hb; have ho2 : Row w1 (w.heap.size + 1) 50 [.int .i64 0, .int .i64 0, .int .i64 0] := ho; have q0 := Row.cell ho2 0; have q1 := Row.cell ho2 1; have q2 := Row.cell ho2 2; simp only [List.getElem?_cons_zero, List.getElem?_cons_succ] at q0 q1 q2; obtain ⟨f0, f1, f2⟩ := RowT.free ho)
  have h6 : Row (((w1.setCell ⟨w.heap.size + 1, 0, none⟩ (.int .i64 0)).setCell ⟨w.heap.size + 1, 1, none⟩ (.int .i64 0)).setCell ⟨w.heap.size + 1, 2, none⟩ (.int .i64 0)) (w.heap.size + 1) 50 [.int .i64 0, .int .i64 0, .int .i64 0] := Row.store (Row.store (Row.store ho2 0 _) 1 _) 2 _
  have hB6 : Below w.heap.size w (((w1.setCell ⟨w.heap.size + 1, 0, none⟩ (.int .i64 0)).setCell ⟨w.heap.size + 1, 1, none⟩ (.int .i64 0)).setCell ⟨w.heap.size + 1, 2, none⟩ (.int .i64 0)) := ((hb.setCell (by simp only []; omega) _).setCell (by simp only []; omega) _).setCell (by simp only []; omega) _
  generalize (((w1.setCell ⟨w.heap.size + 1, 0, none⟩ (.int .i64 0)).setCell ⟨w.heap.size + 1, 1, none⟩ (.int .i64 0)).setCell ⟨w.heap.size + 1, 2, none⟩ (.int .i64 0)) = W6 at *
  have p0 := Row.cell h6 0
  have p1 := Row.cell h6 1
  have p2 := Row.cell h6 2
  simp only [List.getElem?_cons_zero, List.getElem?_cons_succ] at p0 p1 p2
  exact bodyPost_ret (v := .tuple #[.agg #[.int .i64 0, .int .i64 0, .int .i64 0], .int .i64 100]) (by simp [results, Tryd.results33, go_sem, p0, p1, p2]) rfl ⟨rfl, hB6⟩

set_option maxRecDepth 100000 in
set_option maxHeartbeats 2000000 in
theorem read_ok (s : Se) (w : World) (hc : okS s = true) :
    Calls Tryd.prog 33 #[s.val] w fun e w' => e = .returned (.tuple #[(readTo s 3).val, .int .i64 0]) ∧ Below w.heap.size w w' := by
  have hch := fun w => echeck_any s w
  have e3 : chS s = 0 := by unfold chS; rw [hc]; rfl
  rw [e3] at hch
  have hA : ∀ W, Below ((w.alloc (.cells s.cells.toArray 55)).alloc (.cells (default : Tr).cells.toArray 50)).heap.size ((w.alloc (.cells s.cells.toArray 55)).alloc (.cells (default : Tr).cells.toArray 50)) W →
      RowS W w.heap.size s ∧ Row W (w.heap.size + 1) 50 (default : Tr).cells ∧ Below w.heap.size w W ∧ w.heap.size + 2 ≤ W.heap.size := fun W hb =>
    ⟨Row.keep ((Row.new w 55 s.cells).alloc _) (hb.block _ (by simp; omega)), Row.keep (row_at (w := w.alloc (.cells s.cells.toArray 55)) (by simp) 50 (default : Tr).cells) (hb.block _ (by simp)),
      (((Below.refl _ w).alloc (Nat.le_refl _) _).alloc (by simp) _).trans (hb.mono (by simp; omega)), by have := hb.size; simp at this; omega⟩
  unfold Se.val at hch
  have HCH := Lib.hid hch
  have HA := Lib.hid hA
  clear e3 hch hA
  refine (callsIn_wide (n := 3)).1 ?_
  refine callsIn_of_wp_marks Tryd.func33 rfl trivial ?_ rfl
  simp only [Tryd.ntmps33, List.size_toArray, List.length_cons, List.length_nil, Nat.reduceAdd, Nat.reduceSub, Array.replicate_succ, Array.replicate_zero, List.push_toArray, List.append_toArray, List.nil_append, List.cons_append]
  unfold Se.val
  gi_wp2_with (first
    | (gi_at_call 60; refine (callsIn_wide.2 (HCH.out _)).mono ?_; rintro e w1 ⟨rfl, hb⟩; obtain ⟨hs, ho, hb, hz1⟩ := HA.out _ hb)
    | (gi_at_call 61; refine (callsIn_wide.2 (ciphers_any _ _)).mono ?_; rintro e w' ⟨rfl, rfl⟩))
  obtain ⟨W0, hW0⟩ : ∃ W0 : World, w1.alloc (Obj.cells #[Value.pointer (some { block := w.heap.size, off := 0 })] 88) = W0 := ⟨_, rfl⟩
  have hz : W0.heap.size = w1.heap.size + 1 := by rw [← hW0]; simp
  have hR : RowS W0 w.heap.size s := by rw [← hW0]; exact Row.alloc hs _
  have hO : Row W0 (w.heap.size + 1) 50 (readTo s 0).cells := by rw [← hW0]; exact Row.alloc ho _
  have hP : Boxed W0 w1.heap.size 88 (.pointer (some ⟨w.heap.size, 0, none⟩)) := by rw [← hW0]; exact Boxed.new _ _ _
  have hBW : Below w.heap.size w W0 := by rw [← hW0]; exact hb.alloc hb.size _
  rw [hW0]
  clear hW0
  refine wpIn_rangeL (w := W0) rfl (by omega) (gf := 80) (lb := #[.pointer (some ⟨w1.heap.size, 0, none⟩)]) rfl trivial (enters_of Tryd.func80 (by kernel_rfl) rfl)
    (ciphers_seq w.heap.size w1.heap.size _ 2 (by omega))
    (fun W hW => (hW.block _ (by omega)).trans hP) (by omega) (fun h => h) (fun h => h)
    (fun v hv => by obtain ⟨p, _, rfl⟩ := List.mem_map.1 hv; rfl)
    (fun k W => RowS W w.heap.size s ∧ Row W (w.heap.size + 1) 50 (readTo s k).cells ∧ Below w.heap.size w W)
    (fun _ _ _ => False)
    (fun k W W' row ⟨h1, h2, h4⟩ hg hr => ⟨h1.kept hg (fun e => by have := (hr _ e.symm).resolve_left (fun h => h); omega), Row.keep h2 (hg.block _ (Row.lt h2) (fun e => by have := (hr _ e.symm).resolve_left (fun h => h); omega)), h4.grown hg h4.size (fun r e => by have := (hr _ e).resolve_left (fun h => h); omega)⟩)
    (fun _ _ _ _ _ hs _ _ => hs.elim)
    ⟨hR, hO, hBW⟩
    (fun k a' _ => k < 3 ∧ a' = { tmps := #[Value.agg #[Value.int IntKind.i64 s.x.a, Value.int IntKind.i64 s.x.b, Value.int IntKind.i64 s.y.a, Value.int IntKind.i64 s.y.b, Value.int IntKind.i64 s.z.a, Value.int IntKind.i64 s.z.b],
            Value.pointer (some { block := w.heap.size, off := 0 }), Value.pointer (some { block := w.heap.size + 1, off := 0 }), Value.int IntKind.i64 0, Value.int IntKind.i64 0,
            .int .i64 (k : Int), .pointer (some ⟨w.heap.size, k * 2, none⟩), Value.agg #[Value.int IntKind.i64 s.x.a, Value.int IntKind.i64 s.x.b, Value.int IntKind.i64 s.y.a, Value.int IntKind.i64 s.y.b, Value.int IntKind.i64 s.z.a, Value.int IntKind.i64 s.z.b],
            Value.int IntKind.i64 0, Value.int IntKind.i64 0, Value.bool false, undef, undef,
            Value.func (Fn.func 80) #[] #[Value.pointer (some { block := w1.heap.size, off := 0 })], .int .i64 (k : Int), .pointer (some ⟨w.heap.size, k * 2, none⟩),
            undef, undef, undef, undef, undef, undef, undef, undef, undef, undef, undef], defers := [] })
    (fun _ _ _ _ _ _ hs _ _ => hs) ?assign ?body ?done ?stop
  case assign =>
    intro l k v W K hI hv hsz hK
    obtain ⟨hk, rfl⟩ := ciVals_some hv
    clear hv
    unfold ciV
    gi_wp2
    exact hK _ _ (Kept.refl _ _) (SameOn.refl _ _) hI ⟨hk, rfl⟩
  case body =>
    rintro l k v a' W ⟨h1, h2, h4⟩ ⟨hk, rfl⟩ hv hsz
    have c2 := h1.cb hk
    have f1 := Row.frozen h2 k
    have hst := readTo_set s hk
    have hn := fun w => number_any (s.get k).b w
    obtain ⟨x, hx⟩ : ∃ x, numC (s.get k).b = x := ⟨_, rfl⟩
    rw [hx] at hst hn
    generalize numE (s.get k).b = y at hn
    have hbx : ∃ v, W.cell? ⟨w.heap.size + 1, k, none⟩ = some v := by
      rw [Row.cell h2]
      rcases (show k = 0 ∨ k = 1 ∨ k = 2 by omega) with rfl | rfl | rfl <;> exact ⟨_, rfl⟩
    obtain ⟨v0, c3⟩ := hbx
    generalize (s.get k).b = bb at c2 hn
    have HST := Lib.hid hst
    have HN := Lib.hid hn
    have s5 : (0 : Int) ≤ k := by omega
    have s6 : (k : Int) < 3 := by omega
    clear hv hst hn hx
    gi_wp2_with (gi_at_call 13; refine (callsIn_wide.2 (HN.out _)).mono ?_; rintro e w' ⟨rfl, rfl⟩)
    refine ⟨Kept.setCell _ _ (by simp only []; omega) (by simp only []; omega), ?_, Row.other h1 (p := ⟨w.heap.size + 1, k, none⟩) (by simp only []; omega) _, ?_, h4.setCell (p := ⟨w.heap.size + 1, k, none⟩) (by simp only []; omega) _⟩
    · intro r hr
      have : r = w1.heap.size := hr
      exact Below.heap_setCell _ _ _ r (by simp only []; omega)
    · have := Row.store h2 k (.int .i64 x)
      rw [HST.out] at this
      exact this
  case done =>
    rintro W ⟨h1, h2, h4⟩ hsz hD
    rw [ciVals_length] at h2
    obtain ⟨t, ht⟩ : ∃ t, readTo s 3 = t := ⟨_, rfl⟩
    rw [ht] at h2
    have HT := Lib.hid ht
    clear ht
    obtain ⟨c0, c1, c2⟩ := RowT.three h2
    obtain ⟨f0, f1, f2⟩ := RowT.free h2
    gi_wp2
    have h6 : Row (((W.setCell ⟨w.heap.size + 1, 0, none⟩ (.int .i64 t.p)).setCell ⟨w.heap.size + 1, 1, none⟩ (.int .i64 t.q)).setCell ⟨w.heap.size + 1, 2, none⟩ (.int .i64 t.r)) (w.heap.size + 1) 50 t.cells := Row.store (Row.store (Row.store h2 0 _) 1 _) 2 _
    have hB6 : Below w.heap.size w (((W.setCell ⟨w.heap.size + 1, 0, none⟩ (.int .i64 t.p)).setCell ⟨w.heap.size + 1, 1, none⟩ (.int .i64 t.q)).setCell ⟨w.heap.size + 1, 2, none⟩ (.int .i64 t.r)) := ((h4.setCell (by simp only []; omega) _).setCell (by simp only []; omega) _).setCell (by simp only []; omega) _
    have hD6 : (((W.setCell ⟨w.heap.size + 1, 0, none⟩ (.int .i64 t.p)).setCell ⟨w.heap.size + 1, 1, none⟩ (.int .i64 t.q)).setCell ⟨w.heap.size + 1, 2, none⟩ (.int .i64 t.r)).heap[W0.heap.size]? = some (.deferred (some [])) := by
      refine (Below.heap_setCell _ _ _ _ ?_).trans ((Below.heap_setCell _ _ _ _ ?_).trans ((Below.heap_setCell _ _ _ _ ?_).trans hD)) <;> (simp only []; omega)
    generalize (((W.setCell ⟨w.heap.size + 1, 0, none⟩ (.int .i64 t.p)).setCell ⟨w.heap.size + 1, 1, none⟩ (.int .i64 t.q)).setCell ⟨w.heap.size + 1, 2, none⟩ (.int .i64 t.r)) = W6 at *
    refine ⟨by simp, .inl ⟨_, _, rfl, run_takeDeferred hD6, ?_⟩⟩
    have h7 := Row.keep h6 ((grownBy_putObj' W6 W0.heap.size (.deferred none)).block _ (Row.lt h6) (by simp; omega))
    obtain ⟨d0, d1, d2⟩ := RowT.three h7
    refine ⟨.tuple #[t.val, .int .i64 0], ?_, by rw [HT.out], ?_⟩
    · simp [results, Tryd.f33, go_sem, d0, d1, d2, Tr.val]
    · exact hB6.grown (grownBy_putObj' _ W0.heap.size (.deferred none)) hB6.size (fun r e => by cases e; omega)
  case stop =>
    rintro c k W _ h _ _
    exact h.elim
theorem read_any (s : Se) (w : World) :
    Calls Tryd.prog 33 #[s.val] w fun e w' => e = .returned (.tuple #[(readC s).val, .int .i64 (chS s)]) ∧ Below w.heap.size w w' := by
  cases hc : okS s with
  | false =>
    have e1 : readC s = default := by unfold readC; rw [hc]; rfl
    have e2 : chS s = 100 := by unfold chS; rw [hc]; rfl
    rw [e1, e2]; exact read_bad s w hc
  | true =>
    have e1 : readC s = readTo s 3 := by unfold readC; rw [hc]; rfl
    have e2 : chS s = 0 := by unfold chS; rw [hc]; rfl
    rw [e1, e2]; exact read_ok s w hc
end Go.Proofs.YtaheibbbdglcmaaDoor
