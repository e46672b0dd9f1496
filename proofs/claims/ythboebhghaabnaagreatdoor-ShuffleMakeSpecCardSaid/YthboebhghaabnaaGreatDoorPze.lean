import Derived.RegionTactic
import Derived.ChangeAlike
import Derived.BigRegion
import Derived.Below
import Derived.Test.YthboebhghaabnaaGreatDoorChecked
import Derived.MapKept
import GoSem.Instr.MapUpdate
import GoSem.Instr.Lookup
import Derived.Deep.LoopGhost
import Derived.Tactics
import Derived.Tactics2
import Derived.StillTactics
import Derived.WalkKit
import Derived.Laws.Small
import Derived.Laws.StructEq
import Derived.Laws.Tables
import Derived.KernelRfl
import Derived.ChangeKeysEq
import Derived.StillTailTactics
import Derived.Laws.NewBlocks
import Derived.IntWalk
import Derived.Great.BuildSlice
import Derived.Test.YthboebhghaabnaaGreatDoorPzd
namespace Go.Proofs.YthboebhghaabnaaGreatDoor
open Go.RowKit Go.Shelf Fk
attribute [local go_sem] Oper.semAt_some
theorem wide_fn (f : FuncId) : Fence.wide.fn f = True := rfl
attribute [local go_sem] wide_fn

theorem boxed_at {w : World} {n : Nat} (h : w.heap.size = n) (t : TypeId) (v : Value) : Boxed (w.alloc (.cells #[v] t)) n t v := h ▸ Boxed.new w t v
theorem row_at {w : World} {n : Nat} (h : w.heap.size = n) (t : TypeId) (vs : List Value) : Row (w.alloc (.cells vs.toArray t)) n t vs := h ▸ Row.new w t vs
/-- six cells of a letter -/
def RowS (W : World) (b : Nat) (s : Se) : Prop := Row W b 45 s.cells
theorem RowS.ca {W : World} {b : Nat} {s : Se} (h : RowS W b s) {k : Nat} (hk : k < 3) : W.cell? ⟨b, k * 2, none⟩ = some (.int .i64 (s.get k).a) := by
  rw [Row.cell h]
  rcases (show k = 0 ∨ k = 1 ∨ k = 2 by omega) with rfl | rfl | rfl <;> rfl
theorem RowS.cb {W : World} {b : Nat} {s : Se} (h : RowS W b s) {k : Nat} (hk : k < 3) : W.cell? ⟨b, k * 2 + 1, none⟩ = some (.int .i64 (s.get k).b) := by
  rw [Row.cell h]
  rcases (show k = 0 ∨ k = 1 ∨ k = 2 by omega) with rfl | rfl | rfl <;> rfl
theorem RowS.kept {W W' : World} {b : Nat} {s : Se} {row : Option Nat} (h : RowS W b s) (hg : W.grownBy W' row) (hne : some b ≠ row) : RowS W' b s := Row.keep h (hg.block b (Row.lt h) hne)
theorem okS_all {s : Se} (h : ∀ i, i < 3 → okC (s.get i) = true) : okS s = true := okS_iff.2 ⟨h 0 (by omega), h 1 (by omega), h 2 (by omega)⟩
theorem okS_bad {s : Se} {i : Nat} (h : okC (s.get i) = false) : okS s = false := by
  cases hs : okS s with
  | false => rfl
  | true => rw [okS_get hs i] at h; cases h

set_option maxHeartbeats 1000000 in
theorem echeck_any (s : Se) (w : World) :
    Calls Tryz.prog 45 #[s.val] w fun e w' => e = .returned (.int .i64 (chS s)) ∧ Below w.heap.size w w' := by
  refine (callsIn_wide (n := 3)).1 ?_
  refine callsIn_of_wp_marks Tryz.func45 rfl trivial ?_ rfl
  simp only [Tryz.ntmps45, List.size_toArray, List.length_cons, List.length_nil, Nat.reduceAdd, Nat.reduceSub, Array.replicate_succ, Array.replicate_zero, List.push_toArray, List.append_toArray, List.nil_append, List.cons_append]
  unfold Se.val
  gi_wp2_with (gi_at_call 70; refine (callsIn_wide.2 (ciphers_any _ _)).mono ?_; rintro e w' ⟨rfl, rfl⟩)
  obtain ⟨W0, hW0⟩ : ∃ W0 : World, (((w.alloc (Obj.cells #[Value.int IntKind.i64 s.x.a, Value.int IntKind.i64 s.x.b, Value.int IntKind.i64 s.y.a, Value.int IntKind.i64 s.y.b, Value.int IntKind.i64 s.z.a, Value.int IntKind.i64 s.z.b] 45)).alloc
        (Obj.cells #[Value.int IntKind.i64 0] 33)).alloc (Obj.cells #[Value.pointer (some { block := w.heap.size, off := 0 })] 116)) = W0 := ⟨_, rfl⟩
  have hz : W0.heap.size = w.heap.size + 3 := by rw [← hW0]; simp
  have hR : RowS W0 w.heap.size s := by rw [← hW0]; exact ((Row.new w 45 s.cells).alloc _).alloc _
  have hE : Boxed W0 (w.heap.size + 1) 33 (.int .i64 0) := by rw [← hW0]; exact (boxed_at (by simp) _ _).alloc _
  have hP : Boxed W0 (w.heap.size + 2) 116 (.pointer (some ⟨w.heap.size, 0, none⟩)) := by rw [← hW0]; exact boxed_at (by simp) _ _
  have hBW : Below w.heap.size w W0 := by rw [← hW0]; exact (((Below.refl _ w).alloc (Nat.le_refl _) _).alloc (by simp) _).alloc (by simp; omega) _
  rw [hW0]
  clear hW0
  refine wpIn_rangeL (w := W0) rfl (by omega) (gf := 85) (lb := #[.pointer (some ⟨w.heap.size + 2, 0, none⟩)]) rfl trivial (enters_of Tryz.func85 (by kernel_rfl) rfl)
    (ciphers_seq w.heap.size (w.heap.size + 2) _ 2 (by omega))
    (fun W hW => (hW.block _ (by omega)).trans hP) (by omega) (fun h => h) (fun h => h)
    (fun v hv => by obtain ⟨p, _, rfl⟩ := List.mem_map.1 hv; rfl)
    (fun k W => RowS W w.heap.size s ∧ Boxed W (w.heap.size + 1) 33 (.int .i64 0) ∧ Below w.heap.size w W ∧ ∀ i, i < k → okC (s.get i) = true)
    (fun c _ W => c = .ret ∧ okS s = false ∧ Boxed W (w.heap.size + 1) 33 (.int .i64 100) ∧ Below w.heap.size w W)
    (fun k W W' row ⟨h1, h2, h3, h4⟩ hg hr => ⟨h1.kept hg (fun e => by have := (hr _ e.symm).resolve_left (fun h => h); omega), h2.kept hg (fun e => by have := (hr _ e.symm).resolve_left (fun h => h); omega), h3.grown hg h3.size (fun r e => by have := (hr _ e).resolve_left (fun h => h); omega), h4⟩)
    (fun c k W W' row ⟨h1, h2, h3, h4⟩ hg hr => ⟨h1, h2, h3.kept hg (fun e => by have := (hr _ e.symm).resolve_left (fun h => h); omega), h4.grown hg h4.size (fun r e => by have := (hr _ e).resolve_left (fun h => h); omega)⟩)
    ⟨hR, hE, hBW, fun i hi => by omega⟩
    (fun k a' _ => k < 3 ∧ a' = { tmps := #[Value.agg #[Value.int IntKind.i64 s.x.a, Value.int IntKind.i64 s.x.b, Value.int IntKind.i64 s.y.a, Value.int IntKind.i64 s.y.b, Value.int IntKind.i64 s.z.a, Value.int IntKind.i64 s.z.b],
            Value.pointer (some { block := w.heap.size, off := 0 }),
            Value.pointer (some { block := w.heap.size + 1, off := 0 }), undef, .pointer (some ⟨w.heap.size, k * 2, none⟩),
            Value.func (Fn.func 85) #[] #[Value.pointer (some { block := w.heap.size + 1 + 1, off := 0 })], .int .i64 (k : Int), .pointer (some ⟨w.heap.size, k * 2, none⟩),
            undef, undef, undef, undef, undef, undef, undef, undef, undef, undef, undef, undef, undef, undef], defers := [] })
    (fun _ _ _ _ _ _ hs _ _ => hs) ?assign ?body ?done ?stop
  case assign =>
    intro l k v W K hI hv hsz hK
    obtain ⟨hk, rfl⟩ := ciVals_some hv
    clear hv
    unfold ciV
    gi_wp2
    exact hK _ _ (Kept.refl _ _) (SameOn.refl _ _) hI ⟨hk, rfl⟩
  case body =>
    rintro l k v a' W ⟨h1, h2, h3, h4⟩ ⟨hk, rfl⟩ hv hsz
    have c1 := h1.ca hk
    have c2 := h1.cb hk
    have c3 := h2.cell
    have c4 := h2.frozen
    have hok : okC (s.get k) = (vld (s.get k).a && vld (s.get k).b) := rfl
    have hbad := okS_bad (s := s) (i := k)
    obtain ⟨c, hsk⟩ : ∃ c, s.get k = c := ⟨_, rfl⟩
    rw [hsk] at c1 c2 hok hbad
    have hall : okC c = true → ∀ i, i < k + 1 → okC (s.get i) = true := fun hc i hi => by
      by_cases e : i = k
      · rw [e, hsk]; exact hc
      · exact h4 i (by omega)
    have H4 := Lib.hid hall
    clear hall hsk h4
    have HB := Lib.hid hbad
    have HO := Lib.hid hok
    clear hbad hok
    by_cases ha : vld c.a = true ∧ vld c.b = true
    · obtain ⟨ha, hb⟩ := ha
      gi_wp2_with (gi_at_call 22; refine (callsIn_wide.2 (valid_any _ _)).mono ?_; rintro e w' ⟨rfl, rfl⟩)
      exact ⟨Kept.refl _ _, SameOn.refl _ _, h1, h2, h3, H4.out (by rw [HO.out, ha, hb]; rfl)⟩
    · have hf : okS s = false := HB.out (by rw [HO.out]; cases hva : vld c.a <;> cases hvb : vld c.b <;> simp_all)
      have HF := Lib.hid hf
      clear hf
      cases hva : vld c.a with
      | true =>
        have hvb : vld c.b = false := by cases hvb : vld c.b <;> simp_all
        clear ha
        gi_wp2_with (gi_at_call 22; refine (callsIn_wide.2 (valid_any _ _)).mono ?_; rintro e w' ⟨rfl, rfl⟩)
        exact ⟨Kept.setCell _ _ (by simp only []; omega) (by simp only []; omega), rfl, HF.out, h2.set _, h3.setCell (p := ⟨w.heap.size + 1, 0, none⟩) (by simp) _⟩
      | false =>
        clear ha
        gi_wp2_with (gi_at_call 22; refine (callsIn_wide.2 (valid_any _ _)).mono ?_; rintro e w' ⟨rfl, rfl⟩)
        exact ⟨Kept.setCell _ _ (by simp only []; omega) (by simp only []; omega), rfl, HF.out, h2.set _, h3.setCell (p := ⟨w.heap.size + 1, 0, none⟩) (by simp) _⟩
  case done =>
    rintro W ⟨h1, h2, h3, h4⟩ hsz hD
    have e1 : chS s = 0 := by unfold chS; rw [if_pos (okS_all (fun i hi => h4 i (by rw [ciVals_length]; exact hi)))]
    have c3 := h2.cell
    have c4 := h2.frozen
    have HE := Lib.hid e1
    clear e1 h4 h1
    gi_wp2
    have hD' : (W.setCell ⟨w.heap.size + 1, 0, none⟩ (.int .i64 0)).heap[W0.heap.size]? = some (.deferred (some [])) := (Below.heap_setCell _ _ _ _ (by simp only []; omega)).trans hD
    have b1 := h2.set (.int .i64 0)
    have hBf := h3.setCell (p := ⟨w.heap.size + 1, 0, none⟩) (by simp) (.int .i64 0)
    refine ⟨by simp, .inl ⟨_, _, rfl, run_takeDeferred hD', ?_⟩⟩
    have d1 := (b1.kept (grownBy_putObj' _ W0.heap.size (.deferred none)) (by simp; omega)).cell
    refine ⟨.int .i64 0, ?_, by rw [HE.out], ?_⟩
    · simp [results, Tryz.f45, go_sem, d1]
    · exact hBf.grown (grownBy_putObj' _ W0.heap.size (.deferred none)) hBf.size (fun r e => by cases e; omega)
  case stop =>
    rintro c k W _ ⟨rfl, h2, h3, h4⟩ hsz hD
    have e1 : chS s = 100 := by unfold chS; rw [h2]; rfl
    have HE := Lib.hid e1
    clear e1 h2
    gi_wp2
    refine ⟨by simp, .inl ⟨_, _, rfl, run_takeDeferred hD, ?_⟩⟩
    have d1 := (h3.kept (grownBy_putObj' _ W0.heap.size (.deferred none)) (by simp; omega)).cell
    refine ⟨.int .i64 100, ?_, by rw [HE.out], ?_⟩
    · simp [results, Tryz.f45, go_sem, d1]
    · exact h4.grown (grownBy_putObj' _ W0.heap.size (.deferred none)) h4.size (fun r e => by cases e; omega)
end Go.Proofs.YthboebhghaabnaaGreatDoor

set_option linter.unusedSimpArgs false
namespace Go.Proofs.YthboebhghaabnaaGreatDoor
open Go.RowKit Go.Shelf Fk

def _root_.Fk.Se.set (s : Se) (k : Nat) (c : Ci) : Se := ⟨if k = 0 then c else s.x, if k = 1 then c else s.y, if k = 2 then c else s.z⟩
theorem mapTo_set (f : Nat → Ci → Ci) (s : Se) {k : Nat} (h : k < 3) : (s.mapTo f k).set k (f k (s.get k)) = s.mapTo f (k + 1) := by
  rcases (show k = 0 ∨ k = 1 ∨ k = 2 by omega) with rfl | rfl | rfl <;> rfl
theorem mapTo_get (f : Nat → Ci → Ci) (s : Se) {k : Nat} (h : k < 3) : (s.mapTo f k).get k = s.get k := by
  rcases (show k = 0 ∨ k = 1 ∨ k = 2 by omega) with rfl | rfl | rfl <;> rfl
theorem set_cells (s : Se) {k : Nat} (c : Ci) (h : k < 3) : (s.set k c).cells = (s.cells.set (k * 2) (.int .i64 c.a)).set (k * 2 + 1) (.int .i64 c.b) := by
  rcases (show k = 0 ∨ k = 1 ∨ k = 2 by omega) with rfl | rfl | rfl <;> rfl
theorem set_cells_b (s : Se) {k : Nat} (c : Ci) (h : k < 3) (ha : c.a = (s.get k).a) : (s.set k c).cells = s.cells.set (k * 2 + 1) (.int .i64 c.b) := by
  rcases (show k = 0 ∨ k = 1 ∨ k = 2 by omega) with rfl | rfl | rfl
  · have : c.a = s.x.a := ha
    simp [Se.set, Se.cells, this]
  · have : c.a = s.y.a := ha
    simp [Se.set, Se.cells, this]
  · have : c.a = s.z.a := ha
    simp [Se.set, Se.cells, this]
theorem RowT_get {W : World} {b : Nat} {t : TypeId} {r : Tr} (h : Row W b t r.cells) {k : Nat} (hk : k < 3) : W.cell? ⟨b, k, none⟩ = some (.int .i64 (r.get k)) := by
  rw [Row.cell h]
  rcases (show k = 0 ∨ k = 1 ∨ k = 2 by omega) with rfl | rfl | rfl <;> rfl
theorem powC_bd (a n : Int) : 0 ≤ powC a n ∧ powC a n < 2147483579 := by
  unfold powC; split
  · exact ⟨pwr_nonneg _ _, pwr_lt _ _⟩
  · omega
/-- what is returned when a function has no results -/
def ranC (bs : Nat) (s : Se) (W : World) (e : Ending) (W' : World) : Prop := (∃ v, e = .returned v) ∧ RowS W' bs s ∧ W.grownBy W' (some bs)

/-- what a region that makes new keys holds: W's blocks are as they were, and so the loaded cells -/
def SMo (W : World) (p1 p2 p3 p4 : Addr) (v1 v2 v3 v4 : Value) (w' : World) : Prop := Below W.heap.size W w' ∧ w'.cell? p1 = some v1 ∧ w'.cell? p2 = some v2 ∧ w'.cell? p3 = some v3 ∧ w'.cell? p4 = some v4
theorem SMo.below {W w' w2 : World} {p1 p2 p3 p4 : Addr} {v1 v2 v3 v4 : Value} (h1 : p1.block < W.heap.size) (h2 : p2.block < W.heap.size) (h3 : p3.block < W.heap.size) (h4 : p4.block < W.heap.size)
    (h : SMo W p1 p2 p3 p4 v1 v2 v3 v4 w') (hb : Below w'.heap.size w' w2) : SMo W p1 p2 p3 p4 v1 v2 v3 v4 w2 := by
  obtain ⟨a, b, c, d, e⟩ := h
  have hz := a.size
  exact ⟨a.trans (hb.mono hz), (hb.cell (by omega)).trans b, (hb.cell (by omega)).trans c, (hb.cell (by omega)).trans d, (hb.cell (by omega)).trans e⟩
theorem below_alloc (w : World) (o : Obj) : Below w.heap.size w (w.alloc o) := (Below.refl _ _).alloc (Nat.le_refl _) o

theorem grown_set {W w' : World} {p : Addr} {u : Value} {b : Nat} (h : W.grownBy w' (some b)) (hp : p.block = b) : W.grownBy (w'.setCell p u) (some b) :=
  ⟨h.os, h.tape, h.output, by simpa [World.setCell] using h.size, fun k hk hn => (Below.heap_setCell w' p u k (fun e => hn (by rw [e, hp]))).trans (h.block k hk hn)⟩
theorem grown_below {W w' : World} (h : Below W.heap.size W w') (row : Option Nat) : W.grownBy w' row := ⟨h.os, h.tape, h.output, h.size, fun k hk _ => h.block k hk⟩

set_option maxHeartbeats 2000000 in
theorem more_in (k : Nat) (hk : k < 3) (s : Se) (r : Tr) (key : Int) (bs br bk : Nat) (W : World) (h : RowS W bs s) (hr : Row W br 56 r.cells) (hkey : Boxed W bk 3 (.int .i64 key))
    (hca : 0 ≤ (s.get k).a ∧ (s.get k).a < 2147483579) (hcb : 0 ≤ (s.get k).b ∧ (s.get k).b < 2147483579) :
    Calls Tryz.prog 71 #[.int .i64 (k : Int), .pointer (some ⟨bs, k * 2, none⟩), .pointer (some ⟨br, 0, none⟩), .pointer (some ⟨bk, 0, none⟩)] W (ranC bs (s.set k (moreC key r k (s.get k))) W) := by
  have c1 := h.ca hk
  have c2 := h.cb hk
  have c3 := RowT_get hr hk
  have c4 := hkey.cell
  have f1 := Row.frozen h (k * 2)
  have f2 := Row.frozen h (k * 2 + 1)
  have hs := set_cells s (moreC key r k (s.get k)) hk
  have hlb := Row.lt h
  have hlr := Row.lt hr
  have hlk := Boxed.lt hkey
  have hkeep := fun (w' : World) (hw : Below W.heap.size W w') => (Row.keep h (hw.block bs hlb) : RowS w' bs s)
  have hmo : moreC key r k (s.get k) = ⟨(s.get k).a * powC 4 (r.get k) % 2147483579, (s.get k).b * powC key (r.get k) % 2147483579⟩ := rfl
  unfold moreC at hs
  obtain ⟨c, hc⟩ : ∃ c, s.get k = c := ⟨_, rfl⟩
  obtain ⟨ri, hri⟩ : ∃ ri, r.get k = ri := ⟨_, rfl⟩
  rw [hc] at c1 c2 hca hcb hs hmo
  rw [hri] at c3 hs hmo
  have p1 := powC_bd 4 ri
  have p2 := powC_bd key ri
  have q1 := fun w => epow_any 4 ri w
  have q2 := fun w => epow_any key ri w
  generalize powC 4 ri = x1 at *
  generalize powC key ri = x2 at *
  have HS := Lib.hid hs
  have HM := Lib.hid hmo
  have Q1 := Lib.hid q1
  have Q2 := Lib.hid q2
  have HK := Lib.hid hkeep
  have hS0 : SMo W ⟨bs, k * 2, none⟩ ⟨bs, k * 2 + 1, none⟩ ⟨br, k, none⟩ ⟨bk, 0, none⟩ (.int .i64 c.a) (.int .i64 c.b) (.int .i64 ri) (.int .i64 key) W.drew := ⟨(Below.refl _ _).drew, c1, c2, c3, c4⟩
  have s1 : (0 : Int) ≤ k := by omega
  have s2 : (k : Int) < 3 := by omega
  clear hs hmo q1 q2 hri h hr hkey hkeep
  go_enter Tryz.func71, Tryz.ntmps71
  refine wp_region_ord 23 [(0, 1), (1, 0), (1, 2), (1, 3), (1, 4), (1, 5), (1, 6), (1, 7), (1, 8), (1, 12), (1, 13), (1, 14), (1, 15), (1, 16), (1, 17), (1, 18), (1, 19), (2, 9), (2, 10), (2, 11), (2, 20), (2, 21), (2, 22)]
    (SMo W ⟨bs, k * 2, none⟩ ⟨bs, k * 2 + 1, none⟩ ⟨br, k, none⟩ ⟨bk, 0, none⟩ (.int .i64 c.a) (.int .i64 c.b) (.int .i64 ri) (.int .i64 key)) (by kernel_rfl) (by kernel_rfl) (fun _ _ d _ _ h => by cases d <;> exact h) hS0 ?_
  refine wpOrd_any (v := ?_) rfl (by rfl) (fun w => ?_) ?_
  rotate_left 1
  · go_simp
    with_reducible rfl
  simp only [Act.put, List.setIfInBounds_toArray, List.set_cons_zero, List.set_cons_succ]
  iterate 16
    refine wpOrd_take (v := ?_) rfl (by rfl) (fun w hSw => ?_) ?_
    rotate_left 1
    · obtain ⟨hSB, hS1, hS2, hS3, hS4⟩ := hSw
      go_simp
      with_reducible rfl
    simp only [Act.put, List.setIfInBounds_toArray, List.set_cons_zero, List.set_cons_succ]
  refine wpOrd_step rfl (fun K hK => ⟨by rfl, ?_⟩)
  go_simp
  go_at_call 73
  refine (Q1.out _).mono ?_
  rintro e w1 ⟨rfl, hb⟩
  refine hK _ _ (hS0.below hlb hlb hlr hlk hb) ?_
  replace hS0 := hS0.below hlb hlb hlr hlk hb
  clear hK K hb
  refine wpOrd_step rfl (fun K hK => ⟨by rfl, ?_⟩)
  go_simp
  refine hK _ _ (hS0.below hlb hlb hlr hlk (below_alloc _ _)) ?_
  replace hS0 := hS0.below hlb hlb hlr hlk (below_alloc _ (Obj.cells #[Value.int IntKind.i64 c.a, Value.int IntKind.i64 x1] 3))
  clear hK K
  refine wpOrd_step rfl (fun K hK => ⟨by rfl, ?_⟩)
  go_simp
  go_at_call 72
  refine (times_two c.a x1 hca p1 w1.heap.size _ (by simp) (by simp)).mono ?_
  rintro e w2 ⟨rfl, rfl⟩
  refine hK _ _ hS0 ?_
  clear hK K
  generalize w1.alloc (Obj.cells #[Value.int IntKind.i64 c.a, Value.int IntKind.i64 x1] 3) = w3 at *
  refine wpOrd_step rfl (fun K hK => ⟨by rfl, ?_⟩)
  go_simp
  go_at_call 73
  refine (Q2.out _).mono ?_
  rintro e w4 ⟨rfl, hb⟩
  refine hK _ _ (hS0.below hlb hlb hlr hlk hb) ?_
  replace hS0 := hS0.below hlb hlb hlr hlk hb
  clear hK K hb
  refine wpOrd_step rfl (fun K hK => ⟨by rfl, ?_⟩)
  go_simp
  refine hK _ _ (hS0.below hlb hlb hlr hlk (below_alloc _ _)) ?_
  replace hS0 := hS0.below hlb hlb hlr hlk (below_alloc _ (Obj.cells #[Value.int IntKind.i64 c.b, Value.int IntKind.i64 x2] 3))
  clear hK K
  refine wpOrd_step rfl (fun K hK => ⟨by rfl, ?_⟩)
  go_simp
  go_at_call 72
  refine (times_two c.b x2 hcb p2 w4.heap.size _ (by simp) (by simp)).mono ?_
  rintro e w5 ⟨rfl, rfl⟩
  refine hK _ _ hS0 ?_
  clear hK K
  generalize w4.alloc (Obj.cells #[Value.int IntKind.i64 c.b, Value.int IntKind.i64 x2] 3) = w6 at *
  refine wpOrd_nil ?_
  simp only [List.drop_succ_cons, List.drop_zero]
  have hBW := hS0.1
  have hRow := HK.out _ hBW
  have g1 := Row.frozen hRow (k * 2)
  have g2 : (w6.setCell ⟨bs, k * 2, none⟩ (.int .i64 (c.a * x1 % 2147483579))).frozen? ⟨bs, k * 2 + 1, none⟩ = false := Row.frozen (Row.store hRow (k * 2) _) _
  have g3 : w6.cell? ⟨bs, k * 2, none⟩ = some (.int .i64 c.a) := hS0.2.1
  have g4 : (w6.setCell ⟨bs, k * 2, none⟩ (.int .i64 (c.a * x1 % 2147483579))).cell? ⟨bs, k * 2 + 1, none⟩ = some (.int .i64 c.b) := (World.cell?_setCell_other _ _ _ _ (fun e => by injection e; omega)).trans hS0.2.2.1
  have HRow := Lib.hid hRow
  clear hRow hS0 c1 c2 c3 c4 f1 f2
  go_wp2_with fail
  go_end0
  refine ⟨⟨_, rfl⟩, ?_, ?_⟩
  · show Row _ _ _ _
    rw [HM.out, HS.out]
    exact Row.store (Row.store HRow.out (k * 2) _) (k * 2 + 1) _
  · exact grown_set (grown_set (grown_below hBW _) rfl) rfl
end Go.Proofs.YthboebhghaabnaaGreatDoor

namespace Go.Proofs.YthboebhghaabnaaGreatDoor
open Go.RowKit Fk
/-! What is known behind a call: the old blocks, the new one, the sizes. -/
theorem st6 {W : World} {b : Nat} {t : TypeId} {a0 a1 a2 a3 a4 a5 : Value} (h : Row W b t [a0, a1, a2, a3, a4, a5]) : W.cell? ⟨b, 0, none⟩ = some a0 ∧ W.cell? ⟨b, 1, none⟩ = some a1 ∧ W.cell? ⟨b, 2, none⟩ = some a2 ∧ W.cell? ⟨b, 3, none⟩ = some a3 ∧ W.cell? ⟨b, 4, none⟩ = some a4 ∧ W.cell? ⟨b, 5, none⟩ = some a5 :=
  ⟨Row.cell h 0, Row.cell h 1, Row.cell h 2, Row.cell h 3, Row.cell h 4, Row.cell h 5⟩
theorem st3 {W : World} {b : Nat} {t : TypeId} {a0 a1 a2 : Value} (h : Row W b t [a0, a1, a2]) : W.cell? ⟨b, 0, none⟩ = some a0 ∧ W.cell? ⟨b, 1, none⟩ = some a1 ∧ W.cell? ⟨b, 2, none⟩ = some a2 :=
  ⟨Row.cell h 0, Row.cell h 1, Row.cell h 2⟩
theorem st1 {W : World} {b : Nat} {t : TypeId} {a0 : Value} (h : Row W b t [a0]) : W.cell? ⟨b, 0, none⟩ = some a0 := Row.cell h 0
theorem step0 {w w1 w2 : World} (hB : Below w.heap.size w w1) (hb : Below w1.heap.size w1 w2) :
    Below w.heap.size w w2 ∧ w1.heap.size ≤ w2.heap.size ∧ (∀ g t vs, Row w1 g t vs → Row w2 g t vs) :=
  ⟨hB.trans (hb.mono hB.size), hb.size, fun _ _ _ h => Row.keep h (hb.block _ (Row.lt h))⟩
theorem step1 {w w1 w2 : World} {vs : List Value} {t : TypeId} (hB : Below w.heap.size w w1) (hb : Below (w1.alloc (.cells vs.toArray t)).heap.size (w1.alloc (.cells vs.toArray t)) w2) :
    Below w.heap.size w w2 ∧ w1.heap.size < w2.heap.size ∧ (∀ g t vs, Row w1 g t vs → Row w2 g t vs) ∧ Row w2 w1.heap.size t vs := by
  have h1 := hb.size
  have h2 := hB.size
  simp at h1
  refine ⟨(hB.trans ((below_alloc w1 _).mono h2)).trans (hb.mono (by simp; omega)), by omega, fun g t vs h => ?_, ?_⟩
  · exact Row.keep (Row.alloc h _) (hb.block _ (by have := Row.lt h; simp; omega))
  · exact Row.keep (row_at (w := w1) rfl t vs) (hb.block _ (by simp))
theorem stepP1 {w w2 : World} {v1 : List Value} {t1 : TypeId} (hb : Below (w.alloc (.cells v1.toArray t1)).heap.size (w.alloc (.cells v1.toArray t1)) w2) :
    Below w.heap.size w w2 ∧ w.heap.size < w2.heap.size ∧ Row w2 w.heap.size t1 v1 := by
  obtain ⟨a, b, _, c⟩ := step1 (Below.refl _ w) hb
  exact ⟨a, b, c⟩
theorem stepP2 {w w2 : World} {v1 v2 : List Value} {t1 t2 : TypeId} (hb : Below ((w.alloc (.cells v1.toArray t1)).alloc (.cells v2.toArray t2)).heap.size ((w.alloc (.cells v1.toArray t1)).alloc (.cells v2.toArray t2)) w2) :
    Below w.heap.size w w2 ∧ w.heap.size + 1 < w2.heap.size ∧ Row w2 w.heap.size t1 v1 ∧ Row w2 (w.heap.size + 1) t2 v2 := by
  obtain ⟨a, b, k, c⟩ := step1 (below_alloc w (.cells v1.toArray t1) |>.mono (Nat.le_refl _)) hb
  simp at b c
  exact ⟨a, b, k _ _ _ (Row.new w t1 v1), c⟩
theorem stepP3 {w w2 : World} {v1 v2 v3 : List Value} {t1 t2 t3 : TypeId} (hb : Below (((w.alloc (.cells v1.toArray t1)).alloc (.cells v2.toArray t2)).alloc (.cells v3.toArray t3)).heap.size (((w.alloc (.cells v1.toArray t1)).alloc (.cells v2.toArray t2)).alloc (.cells v3.toArray t3)) w2) :
    Below w.heap.size w w2 ∧ w.heap.size + 1 + 1 < w2.heap.size ∧ Row w2 w.heap.size t1 v1 ∧ Row w2 (w.heap.size + 1) t2 v2 ∧ Row w2 (w.heap.size + 1 + 1) t3 v3 := by
  obtain ⟨a, b, k, c⟩ := step1 (w := w) (w1 := (w.alloc (.cells v1.toArray t1)).alloc (.cells v2.toArray t2)) (((Below.refl _ w).alloc (Nat.le_refl _) _).alloc (by simp) _) hb
  simp at b c
  exact ⟨a, b, k _ _ _ ((Row.new w t1 v1).alloc _), k _ _ _ (row_at (by simp) t2 v2), c⟩
theorem stepP4 {w w2 : World} {v1 v2 v3 v4 : List Value} {t1 t2 t3 t4 : TypeId} (hb : Below ((((w.alloc (.cells v1.toArray t1)).alloc (.cells v2.toArray t2)).alloc (.cells v3.toArray t3)).alloc (.cells v4.toArray t4)).heap.size ((((w.alloc (.cells v1.toArray t1)).alloc (.cells v2.toArray t2)).alloc (.cells v3.toArray t3)).alloc (.cells v4.toArray t4)) w2) :
    Below w.heap.size w w2 ∧ w.heap.size + 1 + 1 + 1 < w2.heap.size ∧ Row w2 w.heap.size t1 v1 ∧ Row w2 (w.heap.size + 1) t2 v2 ∧ Row w2 (w.heap.size + 1 + 1) t3 v3 ∧ Row w2 (w.heap.size + 1 + 1 + 1) t4 v4 := by
  obtain ⟨a, b, k, c⟩ := step1 (w := w) (w1 := ((w.alloc (.cells v1.toArray t1)).alloc (.cells v2.toArray t2)).alloc (.cells v3.toArray t3)) ((((Below.refl _ w).alloc (Nat.le_refl _) _).alloc (by simp) _).alloc (by simp; omega) _) hb
  simp at b c
  exact ⟨a, b, k _ _ _ (((Row.new w t1 v1).alloc _).alloc _), k _ _ _ ((row_at (by simp) t2 v2).alloc _), k _ _ _ (row_at (by simp) t3 v3), c⟩
theorem lt_t {a b c : Nat} (h : a < b) (k : b ≤ c) : a < c := Nat.lt_of_lt_of_le h k
theorem lt_s {a b : Nat} (h : a + 1 < b) : a < b := by omega
end Go.Proofs.YthboebhghaabnaaGreatDoor

set_option linter.unusedSimpArgs false
set_option linter.unusedVariables false
namespace Go.Proofs.YthboebhghaabnaaGreatDoor
open Go.RowKit Fk Sha
/-! The ends of a half. -/
def put6 (W : World) (b o : Nat) (s : Se) : World := (((((W.setCell ⟨b, o + 0, none⟩ (.int .i64 s.x.a)).setCell ⟨b, o + 1, none⟩ (.int .i64 s.x.b)).setCell ⟨b, o + 2, none⟩ (.int .i64 s.y.a)).setCell ⟨b, o + 3, none⟩ (.int .i64 s.y.b)).setCell ⟨b, o + 4, none⟩ (.int .i64 s.z.a)).setCell ⟨b, o + 5, none⟩ (.int .i64 s.z.b)
theorem put6_heap {W : World} {b o : Nat} {s : Se} {k : Nat} (h : k ≠ b) : (put6 W b o s).heap[k]? = W.heap[k]? := by
  unfold put6
  have e := fun (W : World) (i : Nat) (v : Value) => Below.heap_setCell W ⟨b, i, none⟩ v k h
  rw [e, e, e, e, e, e]
theorem put6_below {W W1 : World} {b o n : Nat} {s : Se} (h : Below n W W1) (hb : n ≤ b) : Below n W (put6 W1 b o s) := by
  unfold put6
  exact (((((h.setCell (p := ⟨b, _, none⟩) hb _).setCell (p := ⟨b, _, none⟩) hb _).setCell (p := ⟨b, _, none⟩) hb _).setCell (p := ⟨b, _, none⟩) hb _).setCell (p := ⟨b, _, none⟩) hb _).setCell (p := ⟨b, _, none⟩) hb _
theorem put6_row {W : World} {b : Nat} {t : TypeId} {s x : Se} (h : Row W b t x.cells) : Row (put6 W b 0 s) b t s.cells := by
  unfold put6
  exact (((((h.store 0 _).store 1 _).store 2 _).store 3 _).store 4 _).store 5 _
theorem put6_other {W : World} {b o g : Nat} {t : TypeId} {s : Se} {vs : List Value} (h : Row W g t vs) (hg : g ≠ b) : Row (put6 W b o s) g t vs := h.keep (put6_heap hg)
theorem row_drew {W : World} {g : Nat} {t : TypeId} {vs : List Value} (h : Row W g t vs) : Row W.drew g t vs := h
theorem put6_two {w W : World} {n : Nat} {t : TypeId} (x y : Se) (hB : Below n w W) (r1 : Row W (n + 1) t (default : Se).cells) (r2 : Row W (n + 1 + 1) t (default : Se).cells) :
    Row (put6 (put6 W (n + 1) 0 x) (n + 1 + 1) 0 y).drew (n + 1) t x.cells ∧ Row (put6 (put6 W (n + 1) 0 x) (n + 1 + 1) 0 y).drew (n + 1 + 1) t y.cells ∧ Below n w (put6 (put6 W (n + 1) 0 x) (n + 1 + 1) 0 y).drew :=
  ⟨row_drew (put6_other (put6_row (x := default) r1) (by omega)), row_drew (put6_row (x := default) (put6_other r2 (by omega))), (put6_below (put6_below hB (by omega)) (by omega)).drew⟩
set_option maxRecDepth 100000 in
set_option maxHeartbeats 8000000 in
theorem half3_any (bm : Nat) (o : Og) (j : Nat) (A : Option Addr) (n c : Nat) (A1 : Option Addr) (n1 c1 : Nat) (L M : List Se) (w : World) (h0 : w.cell? ⟨bm, 0, none⟩ = some (.slice A n c)) (h1 : w.cell? ⟨bm, 1, none⟩ = some (.slice A1 n1 c1)) (hbm : bm < w.heap.size)
    (hL : SlS w w.heap.size (.slice A n c) L) (hM : SlS w w.heap.size (.slice A1 n1 c1) M) (ha : 0 ≤ o.a ∧ o.a < L.length) (hj : j < M.length) (ho : o.s.length = 32) :
    Calls Tryz.prog 50 #[.pointer (some ⟨bm, 0, none⟩), .int .i64 j, .agg o.cells.toArray] w fun e w' => e = .returned (.tuple #[(L.getD o.a.toNat default).val, (M.getD j default).val]) ∧ Below w.heap.size w w' := by
  have hz : ∃ W, ((w.alloc (.cells o.cells.toArray 60)).alloc (.cells (default : Se).cells.toArray 45)).alloc (.cells (default : Se).cells.toArray 45) = W := ⟨_, rfl⟩
  obtain ⟨W, hW⟩ := hz
  have hB := ((below_alloc' w (.cells o.cells.toArray 60)).alloc (by simp) (.cells (default : Se).cells.toArray 45)).alloc (by simp; omega) (.cells (default : Se).cells.toArray 45)
  have r0 := ((Row.new w 60 o.cells).alloc (.cells (default : Se).cells.toArray 45)).alloc (.cells (default : Se).cells.toArray 45)
  have r1 := (Row.new (w.alloc (.cells o.cells.toArray 60)) 45 (default : Se).cells).alloc (.cells (default : Se).cells.toArray 45)
  have r2 := Row.new ((w.alloc (.cells o.cells.toArray 60)).alloc (.cells (default : Se).cells.toArray 45)) 45 (default : Se).cells
  rw [World.size_alloc] at r1
  rw [World.size_alloc, World.size_alloc] at r2
  rw [hW] at hB r0 r1 r2
  obtain ⟨hL1, _, _, hv, _⟩ := id hL
  cases hv
  obtain ⟨hM1, _, _, hv, _⟩ := id hM
  cases hv
  obtain ⟨b0, o0, ha0, hb0, e0⟩ := sl_at (hL.below hB) (j := o.a.toNat) (by omega)
  obtain ⟨b1, o1, ha1, hb1, e1⟩ := sl_at (hM.below hB) hj
  have m0 : W.cell? ⟨bm, 0, none⟩ = _ := (hB.cell (p := ⟨bm, 0, none⟩) hbm).trans h0
  have m1 : W.cell? ⟨bm, 1, none⟩ = _ := (hB.cell (p := ⟨bm, 1, none⟩) hbm).trans h1
  rw [ha0] at m0
  rw [ha1] at m1
  clear h0 h1 ha0 ha1
  have q0 : W.cell? ⟨w.heap.size, 0, none⟩ = some (.int .i64 o.a) := r0.cell 0
  obtain ⟨x, hx⟩ : ∃ x : Se, L.getD o.a.toNat default = x := ⟨_, rfl⟩
  obtain ⟨y, hy⟩ : ∃ y : Se, M.getD j default = y := ⟨_, rfl⟩
  rw [hx] at e0 ⊢
  rw [hy] at e1 ⊢
  have d0 := e0 0 (by omega)
  have d1 := e0 1 (by omega)
  have d2 := e0 2 (by omega)
  have d3 := e0 3 (by omega)
  have d4 := e0 4 (by omega)
  have d5 := e0 5 (by omega)
  have g0 := e1 0 (by omega)
  have g1 := e1 1 (by omega)
  have g2 := e1 2 (by omega)
  have g3 := e1 3 (by omega)
  have g4 := e1 4 (by omega)
  have g5 := e1 5 (by omega)
  simp only [encS, Se.cells, List.getD_cons_zero, List.getD_cons_succ, Nat.add_zero] at d0 d1 d2 d3 d4 d5 g0 g1 g2 g3 g4 g5
  have s1 : (0 : Int) ≤ j := by omega
  have s2 : (j : Int) < M.length := by omega
  obtain ⟨s3, s4⟩ := ha
  obtain ⟨CC, hCC⟩ : ∃ CC, o.cells.toArray = CC := ⟨_, rfl⟩
  rw [hCC] at hW ⊢
  clear hCC e0 e1 hx hy hL hM
  generalize o.a = oa at *
  unfold Se.val
  go_enter Tryz.func50, Tryz.ntmps50
  go_upto_region 1 with fail
  refine (show _ = W from hW) ▸ ?_
  clear hW
  have k1 := fun i => Row.cell r1 i
  have k2 := fun i => Row.cell r2 i
  have u0 : W.cell? ⟨w.heap.size + 1, 0, none⟩ = some (.int .i64 0) := k1 0
  have u1 : W.cell? ⟨w.heap.size + 1, 1, none⟩ = some (.int .i64 0) := k1 1
  have u2 : W.cell? ⟨w.heap.size + 1, 2, none⟩ = some (.int .i64 0) := k1 2
  have u3 : W.cell? ⟨w.heap.size + 1, 3, none⟩ = some (.int .i64 0) := k1 3
  have u4 : W.cell? ⟨w.heap.size + 1, 4, none⟩ = some (.int .i64 0) := k1 4
  have u5 : W.cell? ⟨w.heap.size + 1, 5, none⟩ = some (.int .i64 0) := k1 5
  have v0 : W.cell? ⟨w.heap.size + 1 + 1, 0, none⟩ = some (.int .i64 0) := k2 0
  have v1 : W.cell? ⟨w.heap.size + 1 + 1, 1, none⟩ = some (.int .i64 0) := k2 1
  have v2 : W.cell? ⟨w.heap.size + 1 + 1, 2, none⟩ = some (.int .i64 0) := k2 2
  have v3 : W.cell? ⟨w.heap.size + 1 + 1, 3, none⟩ = some (.int .i64 0) := k2 3
  have v4 : W.cell? ⟨w.heap.size + 1 + 1, 4, none⟩ = some (.int .i64 0) := k2 4
  have v5 : W.cell? ⟨w.heap.size + 1 + 1, 5, none⟩ = some (.int .i64 0) := k2 5
  have f1 := fun i => Row.frozen r1 i
  have f2 := fun i => Row.frozen r2 i
  clear k1 k2
  go_region
  obtain ⟨R1, R2, hB6⟩ := put6_two x y hB r1 r2
  change Exit.then _ _ _ _ (put6 (put6 W (w.heap.size + 1) 0 x) (w.heap.size + 1 + 1) 0 y).drew
  generalize (put6 (put6 W (w.heap.size + 1) 0 x) (w.heap.size + 1 + 1) 0 y).drew = W6 at *
  clear u0 u1 u2 u3 u4 u5 v0 v1 v2 v3 v4 v5 f1 f2 d0 d1 d2 d3 d4 d5 g0 g1 g2 g3 g4 g5 m0 m1 q0 r0 r1 r2 hB
  go_wp2_with fail
  obtain ⟨p0, p1, p2, p3, p4, p5⟩ := st6 R1
  obtain ⟨q0, q1, q2, q3, q4, q5⟩ := st6 R2
  exact bodyPost_ret (v := .tuple #[x.val, y.val]) (by simp [results, Tryz.results50, go_sem, p0, p1, p2, p3, p4, p5, q0, q1, q2, q3, q4, q5, Se.val]) rfl ⟨rfl, hB6⟩
set_option maxRecDepth 100000 in
set_option maxHeartbeats 8000000 in
theorem half6_any (bm : Nat) (o : Og) (j : Nat) (A : Option Addr) (n c : Nat) (A1 : Option Addr) (n1 c1 : Nat) (L M : List Se) (w : World) (h0 : w.cell? ⟨bm, 2, none⟩ = some (.slice A n c)) (h1 : w.cell? ⟨bm, 1, none⟩ = some (.slice A1 n1 c1)) (hbm : bm < w.heap.size)
    (hL : SlS w w.heap.size (.slice A n c) L) (hM : SlS w w.heap.size (.slice A1 n1 c1) M) (ha : 0 ≤ o.a ∧ o.a < L.length) (hj : j < M.length) (ho : o.s.length = 32) :
    Calls Tryz.prog 53 #[.pointer (some ⟨bm, 0, none⟩), .int .i64 j, .agg o.cells.toArray] w fun e w' => e = .returned (.tuple #[(M.getD j default).val, (L.getD o.a.toNat default).val]) ∧ Below w.heap.size w w' := by
  have hz : ∃ W, ((w.alloc (.cells o.cells.toArray 60)).alloc (.cells (default : Se).cells.toArray 45)).alloc (.cells (default : Se).cells.toArray 45) = W := ⟨_, rfl⟩
  obtain ⟨W, hW⟩ := hz
  have hB := ((below_alloc' w (.cells o.cells.toArray 60)).alloc (by simp) (.cells (default : Se).cells.toArray 45)).alloc (by simp; omega) (.cells (default : Se).cells.toArray 45)
  have r0 := ((Row.new w 60 o.cells).alloc (.cells (default : Se).cells.toArray 45)).alloc (.cells (default : Se).cells.toArray 45)
  have r1 := (Row.new (w.alloc (.cells o.cells.toArray 60)) 45 (default : Se).cells).alloc (.cells (default : Se).cells.toArray 45)
  have r2 := Row.new ((w.alloc (.cells o.cells.toArray 60)).alloc (.cells (default : Se).cells.toArray 45)) 45 (default : Se).cells
  rw [World.size_alloc] at r1
  rw [World.size_alloc, World.size_alloc] at r2
  rw [hW] at hB r0 r1 r2
  obtain ⟨hL1, _, _, hv, _⟩ := id hL
  cases hv
  obtain ⟨hM1, _, _, hv, _⟩ := id hM
  cases hv
  obtain ⟨b0, o0, ha0, hb0, e0⟩ := sl_at (hL.below hB) (j := o.a.toNat) (by omega)
  obtain ⟨b1, o1, ha1, hb1, e1⟩ := sl_at (hM.below hB) hj
  have m0 : W.cell? ⟨bm, 2, none⟩ = _ := (hB.cell (p := ⟨bm, 2, none⟩) hbm).trans h0
  have m1 : W.cell? ⟨bm, 1, none⟩ = _ := (hB.cell (p := ⟨bm, 1, none⟩) hbm).trans h1
  rw [ha0] at m0
  rw [ha1] at m1
  clear h0 h1 ha0 ha1
  have q0 : W.cell? ⟨w.heap.size, 0, none⟩ = some (.int .i64 o.a) := r0.cell 0
  obtain ⟨x, hx⟩ : ∃ x : Se, L.getD o.a.toNat default = x := ⟨_, rfl⟩
  obtain ⟨y, hy⟩ : ∃ y : Se, M.getD j default = y := ⟨_, rfl⟩
  rw [hx] at e0 ⊢
  rw [hy] at e1 ⊢
  have d0 := e0 0 (by omega)
  have d1 := e0 1 (by omega)
  have d2 := e0 2 (by omega)
  have d3 := e0 3 (by omega)
  have d4 := e0 4 (by omega)
  have d5 := e0 5 (by omega)
  have g0 := e1 0 (by omega)
  have g1 := e1 1 (by omega)
  have g2 := e1 2 (by omega)
  have g3 := e1 3 (by omega)
  have g4 := e1 4 (by omega)
  have g5 := e1 5 (by omega)
  simp only [encS, Se.cells, List.getD_cons_zero, List.getD_cons_succ, Nat.add_zero] at d0 d1 d2 d3 d4 d5 g0 g1 g2 g3 g4 g5
  have s1 : (0 : Int) ≤ j := by omega
  have s2 : (j : Int) < M.length := by omega
  obtain ⟨s3, s4⟩ := ha
  obtain ⟨CC, hCC⟩ : ∃ CC, o.cells.toArray = CC := ⟨_, rfl⟩
  rw [hCC] at hW ⊢
  clear hCC e0 e1 hx hy hL hM
  generalize o.a = oa at *
  unfold Se.val
  go_enter Tryz.func53, Tryz.ntmps53
  go_upto_region 1 with fail
  refine (show _ = W from hW) ▸ ?_
  clear hW
  have k1 := fun i => Row.cell r1 i
  have k2 := fun i => Row.cell r2 i
  have u0 : W.cell? ⟨w.heap.size + 1, 0, none⟩ = some (.int .i64 0) := k1 0
  have u1 : W.cell? ⟨w.heap.size + 1, 1, none⟩ = some (.int .i64 0) := k1 1
  have u2 : W.cell? ⟨w.heap.size + 1, 2, none⟩ = some (.int .i64 0) := k1 2
  have u3 : W.cell? ⟨w.heap.size + 1, 3, none⟩ = some (.int .i64 0) := k1 3
  have u4 : W.cell? ⟨w.heap.size + 1, 4, none⟩ = some (.int .i64 0) := k1 4
  have u5 : W.cell? ⟨w.heap.size + 1, 5, none⟩ = some (.int .i64 0) := k1 5
  have v0 : W.cell? ⟨w.heap.size + 1 + 1, 0, none⟩ = some (.int .i64 0) := k2 0
  have v1 : W.cell? ⟨w.heap.size + 1 + 1, 1, none⟩ = some (.int .i64 0) := k2 1
  have v2 : W.cell? ⟨w.heap.size + 1 + 1, 2, none⟩ = some (.int .i64 0) := k2 2
  have v3 : W.cell? ⟨w.heap.size + 1 + 1, 3, none⟩ = some (.int .i64 0) := k2 3
  have v4 : W.cell? ⟨w.heap.size + 1 + 1, 4, none⟩ = some (.int .i64 0) := k2 4
  have v5 : W.cell? ⟨w.heap.size + 1 + 1, 5, none⟩ = some (.int .i64 0) := k2 5
  have f1 := fun i => Row.frozen r1 i
  have f2 := fun i => Row.frozen r2 i
  clear k1 k2
  go_region
  obtain ⟨R1, R2, hB6⟩ := put6_two y x hB r1 r2
  change Exit.then _ _ _ _ (put6 (put6 W (w.heap.size + 1) 0 y) (w.heap.size + 1 + 1) 0 x).drew
  generalize (put6 (put6 W (w.heap.size + 1) 0 y) (w.heap.size + 1 + 1) 0 x).drew = W6 at *
  clear u0 u1 u2 u3 u4 u5 v0 v1 v2 v3 v4 v5 f1 f2 d0 d1 d2 d3 d4 d5 g0 g1 g2 g3 g4 g5 m0 m1 q0 r0 r1 r2 hB
  go_wp2_with fail
  obtain ⟨p0, p1, p2, p3, p4, p5⟩ := st6 R1
  obtain ⟨q0, q1, q2, q3, q4, q5⟩ := st6 R2
  exact bodyPost_ret (v := .tuple #[y.val, x.val]) (by simp [results, Tryz.results53, go_sem, p0, p1, p2, p3, p4, p5, q0, q1, q2, q3, q4, q5, Se.val]) rfl ⟨rfl, hB6⟩
end Go.Proofs.YthboebhghaabnaaGreatDoor

set_option linter.unusedSimpArgs false
set_option linter.unusedSectionVars false
set_option linter.unusedVariables false
/-! Permutations as lists of integers; a list laid out by places. -/
namespace Fk
def accB (n : Nat) (x : Int) : Bool := decide (0 ≤ x) && decide (x < n)
/-- all different, all accepted -/
def diffB (n : Nat) (l : List Int) : Bool := decide l.Nodup && l.all (accB n)
def permB (l : List Int) : Bool := diffB l.length l
theorem permB_iff {l : List Int} : permB l = true ↔ l.Nodup ∧ ∀ x ∈ l, 0 ≤ x ∧ x < l.length := by
  unfold permB diffB accB
  rw [Bool.and_eq_true, decide_eq_true_iff, List.all_eq_true]
  simp
theorem getD_eq_getElem' {α : Type} [Inhabited α] {l : List α} {k : Nat} (h : k < l.length) : l.getD k default = l[k] := by
  rw [List.getD_eq_getElem?_getD, List.getElem?_eq_getElem h]; rfl
theorem mem_getD {α : Type} [Inhabited α] {l : List α} {k : Nat} (h : k < l.length) : l.getD k default ∈ l := by
  rw [getD_eq_getElem' h]; exact List.getElem_mem _
theorem permB_at {l : List Int} (h : permB l = true) {k : Nat} (hk : k < l.length) : 0 ≤ l.getD k default ∧ l.getD k default < l.length := (permB_iff.1 h).2 _ (mem_getD hk)
theorem nodup_inj {α : Type} [Inhabited α] {l : List α} (h : l.Nodup) {i j : Nat} (hi : i < l.length) (hj : j < l.length) (e : l.getD i default = l.getD j default) : i = j := by
  rw [getD_eq_getElem' hi, getD_eq_getElem' hj] at e
  rcases Nat.lt_trichotomy i j with h1 | h1 | h1
  · exact absurd e (List.pairwise_iff_getElem.1 h i j hi hj h1)
  · exact h1
  · exact absurd e.symm (List.pairwise_iff_getElem.1 h j i hj hi h1)
theorem nodup_of_inj {α : Type} [Inhabited α] {l : List α} (h : ∀ i j, i < j → j < l.length → l.getD i default ≠ l.getD j default) : l.Nodup := by
  refine List.pairwise_iff_getElem.2 fun i j hi hj hij e => h i j hij hj ?_
  rw [getD_eq_getElem' hi, getD_eq_getElem' hj]; exact e
theorem nodup_short : ∀ (n : Nat) (l : List Int), l.Nodup → (∀ x ∈ l, 0 ≤ x ∧ x < n) → l.length ≤ n
  | 0, l, _, h => by
    cases l with
    | nil => simp
    | cons a l => have := h a (by simp); omega
  | n + 1, l, hn, h => by
    have := nodup_short n (l.erase (n : Int)) (hn.erase _) (fun x hx => by
      have h1 := (hn.mem_erase_iff).1 hx
      have h2 := h x h1.2
      have h3 := h1.1
      omega)
    by_cases hm : (n : Int) ∈ l
    · rw [List.length_erase_of_mem hm] at this
      omega
    · rw [List.erase_of_not_mem hm] at this
      omega
/-- every place is met -/
theorem permB_onto {l : List Int} (h : permB l = true) {k : Nat} (hk : k < l.length) : ∃ j, j < l.length ∧ l.getD j default = k := by
  obtain ⟨hn, ha⟩ := permB_iff.1 h
  by_cases hm : (k : Int) ∈ l
  · obtain ⟨j, hj, e⟩ := List.getElem_of_mem hm
    exact ⟨j, hj, by rw [getD_eq_getElem' hj]; exact e⟩
  · exfalso
    have := nodup_short l.length ((k : Int) :: l) (List.nodup_cons.2 ⟨hm, hn⟩) (fun x hx => by
      rcases List.mem_cons.1 hx with rfl | hx
      · omega
      · exact ha x hx)
    simp at this
    omega
section
variable {α : Type} [Inhabited α]
/-- a list of n, of which the first k values are laid at their places -/
def layTo (n : Nat) (z : α) (p : List Int) (v : Nat → α) (k : Nat) : List α := (List.range k).foldl (fun o j => o.set (p.getD j default).toNat (v j)) (List.replicate n z)
theorem layTo_zero (n : Nat) (z : α) (p : List Int) (v : Nat → α) : layTo n z p v 0 = List.replicate n z := rfl
theorem layTo_succ (n : Nat) (z : α) (p : List Int) (v : Nat → α) (k : Nat) : layTo n z p v (k + 1) = (layTo n z p v k).set (p.getD k default).toNat (v k) := by
  unfold layTo
  rw [List.range_succ, List.foldl_append]
  rfl
theorem layTo_length (n : Nat) (z : α) (p : List Int) (v : Nat → α) : ∀ k, (layTo n z p v k).length = n
  | 0 => by simp [layTo_zero]
  | k + 1 => by rw [layTo_succ, List.length_set, layTo_length n z p v k]
theorem getD_set {l : List α} {i j : Nat} {x : α} (hj : j < l.length) : (l.set i x).getD j default = if i = j then x else l.getD j default := by
  rw [List.getD_eq_getElem?_getD, List.getElem?_set]
  split
  · rename_i e; subst e; simp [hj]
  · rw [List.getD_eq_getElem?_getD]
theorem layTo_get {n : Nat} {z : α} {p : List Int} {v : Nat → α} (hn : p.Nodup) (hp : ∀ x ∈ p, 0 ≤ x ∧ x < n) : ∀ {k : Nat}, k ≤ p.length → ∀ j, j < k → (layTo n z p v k).getD (p.getD j default).toNat default = v j
  | 0, _, j, hj => absurd hj (by omega)
  | k + 1, hk, j, hj => by
    have h1 := hp _ (mem_getD (l := p) (k := j) (by omega))
    have h2 := hp _ (mem_getD (l := p) (k := k) (by omega))
    rw [layTo_succ, getD_set (by rw [layTo_length]; omega)]
    by_cases e : j = k
    · subst e; simp
    · rw [if_neg, layTo_get hn hp (by omega) j (by omega)]
      intro e2
      exact e (nodup_inj hn (by omega) (by omega) (by omega))
theorem layTo_congr {n : Nat} {z : α} {p q : List Int} {v u : Nat → α} : ∀ {k : Nat}, (∀ j, j < k → p.getD j default = q.getD j default) → (∀ j, j < k → v j = u j) → layTo n z p v k = layTo n z q u k
  | 0, _, _ => rfl
  | k + 1, h1, h2 => by rw [layTo_succ, layTo_succ, layTo_congr (fun j hj => h1 j (by omega)) (fun j hj => h2 j (by omega)), h1 k (by omega), h2 k (by omega)]
theorem ext_getD {l m : List α} (h : l.length = m.length) (e : ∀ i, i < l.length → l.getD i default = m.getD i default) : l = m := by
  refine List.ext_getElem h fun i h1 h2 => ?_
  rw [← getD_eq_getElem' h1, ← getD_eq_getElem' h2]
  exact e i h1
end
/-- where the letters go -/
def goTo (p q : List Int) : List Int := layTo p.length 0 p (fun j => q.getD j default) p.length
theorem goTo_length (p q : List Int) : (goTo p q).length = p.length := layTo_length _ _ _ _ _
theorem goTo_get {p q : List Int} (h : permB p = true) {j : Nat} (hj : j < p.length) : (goTo p q).getD (p.getD j default).toNat default = q.getD j default :=
  layTo_get (permB_iff.1 h).1 (permB_iff.1 h).2 (Nat.le_refl _) j hj
/-- what goes by two permutations is one -/
theorem goTo_perm {p q : List Int} (hp : permB p = true) (hq : permB q = true) (hl : p.length = q.length) : permB (goTo p q) = true := by
  have key : ∀ i, i < p.length → ∃ j, j < p.length ∧ p.getD j default = i ∧ (goTo p q).getD i default = q.getD j default := fun i hi => by
    obtain ⟨j, hj, e⟩ := permB_onto hp hi
    refine ⟨j, hj, e, ?_⟩
    have := goTo_get (q := q) hp hj
    rwa [e, Int.toNat_natCast] at this
  rw [permB_iff, goTo_length]
  constructor
  · refine nodup_of_inj fun a b hab hb e => ?_
    rw [goTo_length] at hb
    obtain ⟨i, hi, e1, e2⟩ := key a (by omega)
    obtain ⟨j, hj, e3, e4⟩ := key b hb
    rw [e2, e4] at e
    have := nodup_inj (permB_iff.1 hq).1 (by omega) (by omega) e
    subst this
    omega
  · intro x hx
    obtain ⟨i, hi, e⟩ := List.getElem_of_mem hx
    rw [goTo_length] at hi
    obtain ⟨j, hj, _, e2⟩ := key i hi
    rw [getD_eq_getElem' (by rw [goTo_length]; exact hi), e] at e2
    rw [e2, hl]
    exact permB_at hq (by omega)
end Fk

set_option linter.unusedSimpArgs false
set_option linter.unusedVariables false
namespace Fk
open Go Go.MapKept
/-! A set of integers as a map to booleans, all true, that the call itself made. -/
def SetI (w : World) (b : Nat) (l : List Int) : Prop :=
  ∃ es clock, w.heap[b]? = some (.map es clock) ∧ es.toList.map (fun e => e.key) = l.map (Value.int .i64) ∧ ∀ e ∈ es.toList, e.val = .bool true
theorem SetI.keep {w w' : World} {b : Nat} {l : List Int} (h : SetI w b l) (hk : w'.heap[b]? = w.heap[b]?) : SetI w' b l := by
  obtain ⟨es, c, h1, h2, h3⟩ := h
  exact ⟨es, c, hk.trans h1, h2, h3⟩
theorem SetI.made (w : World) : SetI (w.alloc (.map #[] 0)) w.heap.size [] := ⟨#[], 0, World.alloc_heap_new w _, rfl, by simp⟩
section
variable {P : Program} {w : World} {b : Nat} {l : List Int} {t k e : TypeId}
theorem key_int (x : Int) : IsKey (.int .i64) (.int .i64 x) := by simp [IsKey]
theorem keys_int {es : Array MapEntry} (h : es.toList.map (fun e => e.key) = l.map (Value.int .i64)) : ∀ x ∈ es.toList, IsKey (.int .i64) x.key := by
  intro x hx
  have : x.key ∈ es.toList.map (fun e => e.key) := List.mem_map.2 ⟨x, hx, rfl⟩
  rw [h] at this
  obtain ⟨y, _, e⟩ := List.mem_map.1 this
  rw [← e]; exact key_int y
theorem SetI.look (ht : P.underlying t = some (.map k e)) (hk : P.underlying k = some (.int .i64)) (hz : ∀ w, (zeroValue e).run P w = .ok (.bool false) w) (h : SetI w b l) (x : Int) :
    (Instr.lookup t (.map (some b)) (.int .i64 x) false).run P w = .ok (.bool (decide (x ∈ l))) w := by
  obtain ⟨es, c, hb, hl, hv⟩ := h
  have hmem : x ∈ l ↔ ∃ y ∈ es.toList, y.key = .int .i64 x := by
    constructor
    · intro hx
      have : Value.int .i64 x ∈ es.toList.map (fun e => e.key) := by rw [hl]; exact List.mem_map.2 ⟨x, hx, rfl⟩
      obtain ⟨y, hy, e⟩ := List.mem_map.1 this
      exact ⟨y, hy, e⟩
    · rintro ⟨y, hy, e⟩
      have : y.key ∈ l.map (Value.int .i64) := by rw [← hl]; exact List.mem_map.2 ⟨y, hy, rfl⟩
      rw [e] at this
      obtain ⟨z, hz, e2⟩ := List.mem_map.1 this
      injection e2 with _ e2
      exact e2 ▸ hz
  rcases findNow_spec (key_int x) es.toList 0 (keys_int hl) with ⟨h1, h2⟩ | ⟨j, y, h1, h2, h3⟩
  · have hd : decide (x ∈ l) = false := by
      rw [decide_eq_false_iff_not, hmem]
      rintro ⟨y, hy, e⟩
      exact h2 y hy e
    rw [hd]
    simp [Instr.lookup, run_underlying ht, run_getObj_map hb, run_checkKey hk (key_int x), run_findKey hk h1, hz, Result.andThen]
  · have hy : y ∈ es.toList := List.mem_of_getElem? h2
    have hd : decide (x ∈ l) = true := decide_eq_true (hmem.2 ⟨y, hy, h3⟩)
    rw [hd]
    simp [Instr.lookup, run_underlying ht, run_getObj_map hb, run_checkKey hk (key_int x), run_findKey hk h1, hv y hy, Result.andThen]
theorem SetI.put (ht : P.underlying t = some (.map k e)) (hk : P.underlying k = some (.int .i64)) (h : SetI w b l) {x : Int} (hx : x ∉ l) :
    ∃ w', (Instr.mapUpdate t (.map (some b)) (.int .i64 x) (.bool true)).run P w = .ok () w' ∧ SetI w' b (l ++ [x]) ∧ w.grownBy w' (some b) := by
  obtain ⟨es, c, hb, hl, hv⟩ := h
  have hno : ∀ y ∈ es.toList, y.key ≠ .int .i64 x := by
    intro y hy e
    have : y.key ∈ l.map (Value.int .i64) := by rw [← hl]; exact List.mem_map.2 ⟨y, hy, rfl⟩
    rw [e] at this
    obtain ⟨z, hz, e2⟩ := List.mem_map.1 this
    injection e2 with _ e2
    exact hx (e2 ▸ hz)
  rcases findNow_spec (key_int x) es.toList 0 (keys_int hl) with ⟨h1, h2⟩ | ⟨j, y, h1, h2, h3⟩
  · refine ⟨{ w with heap := w.heap.setIfInBounds b (.map (es.push { key := .int .i64 x, val := .bool true, born := c }) (c + 1)) }, ?_, ?_, ?_⟩
    · simp [Instr.mapUpdate, run_underlying ht, run_getObj_map hb, run_checkKey hk (key_int x), run_findKey hk h1, run_setObj_map _ hb, Result.andThen]
    · refine ⟨_, _, (heap_set hb).1, ?_, ?_⟩
      · simp [hl]
      · intro y hy
        simp at hy
        rcases hy with hy | rfl
        · exact hv y (by simpa using hy)
        · rfl
    · exact ⟨rfl, rfl, rfl, by simp, fun i _ hi => (heap_set hb).2 i (fun e => hi (by rw [e]))⟩
  · exact absurd h3 (hno y (List.mem_of_getElem? h2))
end
end Fk

set_option linter.unusedSimpArgs false
set_option linter.unusedVariables false
namespace Go.Proofs.YthboebhghaabnaaGreatDoor
open Go.RowKit Fk
/-! Permutations: different[int], permutation. -/
set_option maxRecDepth 100000 in
theorem accepts_any (x : Int) (bl : Nat) (A : Option Addr) (n c : Nat) (w : World) (hb : w.cell? ⟨bl, 0, none⟩ = some (.slice A n c)) :
    Calls Tryz.prog 68 #[.int .i64 x, .pointer (some ⟨bl, 0, none⟩)] w fun e w' => e = .returned (.bool (accB n x)) ∧ w = w' := by
  unfold accB
  by_cases h0 : 0 ≤ x
  · have g0 : decide (x ≥ 0) = true := decide_eq_true h0
    rw [decide_eq_true h0, Bool.true_and]
    clear h0
    go_enter Tryz.func68, Tryz.ntmps68
    go_wp2_with fail
    go_ret
    exact ⟨by simp, rfl⟩
  · have g0 : decide (x ≥ 0) = false := decide_eq_false h0
    have g1 : decide (0 ≤ x) = false := decide_eq_false h0
    rw [g1, Bool.false_and]
    clear h0
    go_enter Tryz.func68, Tryz.ntmps68
    go_wp2_with fail
    go_ret
    exact ⟨rfl, rfl⟩
theorem diffB_bad {n : Nat} {l : List Int} {k : Nat} (hk : k < l.length) (h : accB n (l.getD k default) = false) : diffB n l = false := by
  unfold diffB
  have : l.all (accB n) = false := by
    rw [List.all_eq_false]
    exact ⟨l.getD k default, by rw [List.getD_eq_getElem?_getD, List.getElem?_eq_getElem hk]; exact List.getElem_mem _, by rw [h]; decide⟩
  rw [this, Bool.and_false]
theorem take_snocN {l : List Int} {k : Nat} (h : k < l.length) : l.take (k + 1) = l.take k ++ [l.getD k default] := by
  rw [List.take_add_one, List.getElem?_eq_getElem h, List.getD_eq_getElem?_getD, List.getElem?_eq_getElem h]; rfl
theorem diffB_met {n : Nat} {l : List Int} {k : Nat} (hk : k < l.length) (h : l.getD k default ∈ l.take k) : diffB n l = false := by
  unfold diffB
  have : decide l.Nodup = false := by
    rw [decide_eq_false_iff_not]
    intro hn
    have h2 : (l.take (k + 1)).Nodup := (List.take_sublist _ _).nodup hn
    rw [take_snocN hk, List.nodup_append] at h2
    exact h2.2.2 _ h _ (List.mem_singleton.2 rfl) rfl
  rw [this, Bool.false_and]
theorem zeroBool (w : World) : (zeroValue 4).run Tryz.prog w = .ok (.bool false) w := by kernel_rfl
set_option maxRecDepth 100000 in
set_option maxHeartbeats 4000000 in
theorem diffI_any (l : List Int) (A : Option Addr) (c : Nat) (bl : Nat) (A2 : Option Addr) (n c2 : Nat) (w : World) (hl : SlI w w.heap.size (.slice A l.length c) l) (hb : w.cell? ⟨bl, 0, none⟩ = some (.slice A2 n c2)) (hbl : bl < w.heap.size) :
    Calls Tryz.prog 67 #[.slice A l.length c, .func (Fn.func 68) #[] #[.pointer (some ⟨bl, 0, none⟩)]] w fun e w' => e = .returned (.bool (diffB n l)) ∧ Below w.heap.size w w' := by
  have HL := Lib.hid hl
  have hmm := @run_makeMap Tryz.prog
  have hB := below_alloc' w (.map #[] 0)
  have hS := SetI.made w
  have hlen := hl.1
  clear hl
  go_enter Tryz.func67, Tryz.ntmps67
  go_wp2_with fail
  go_loopg [11] l.length (fun g iv wr => ∃ k : Nat, iv = .int .i64 k ∧ k + g = l.length ∧ Below w.heap.size w wr ∧ w.heap.size < wr.heap.size ∧ SetI wr w.heap.size (l.take k) ∧ (l.take k).Nodup ∧ ∀ i, i < k → accB n (l.getD i default) = true)
  case atStart => exact ⟨0, rfl, by omega, hB, by simp, hS, by simp, fun i hi => absurd hi (by omega)⟩
  case round =>
    clear hB hS
    obtain ⟨k, rfl, hkg, hBr, hzr, hS, hnd, hacc⟩ := hrel
    by_cases hlt : k < l.length
    · have hs1 := HL.out.below hBr
      obtain ⟨_, A', c', hv, hE⟩ := id hs1
      obtain ⟨xb, off, rfl, hbb, hE⟩ := hE (by omega)
      cases hv
      have d1 := hE.int hlt
      have hmet := diffB_met (n := n) hlt
      have hbad := diffB_bad (n := n) hlt
      have hsn := take_snocN hlt
      obtain ⟨x, hx⟩ : ∃ x, l.getD k default = x := ⟨_, rfl⟩
      rw [hx] at d1 hmet hbad hsn
      have s1 : (0 : Int) ≤ k := by omega
      have s2 : (k : Int) < l.length := by omega
      have hlook := hS.look Tryz.underlying134 Tryz.underlying3 zeroBool x
      have hbc : wr.cell? ⟨bl, 0, none⟩ = some (.slice A2 n c2) := (hBr.cell (p := ⟨bl, 0, none⟩) hbl).trans hb
      have hac := fun w hw => accepts_any x bl A2 n c2 w hw
      by_cases hm : x ∈ l.take k
      · rw [decide_eq_true hm] at hlook
        have HDF := Lib.hid (hmet hm)
        clear hmet hbad hsn hnd hacc hm hac hS hE hs1
        go_wp2_with fail
        go_ret
        exact ⟨by rw [HDF.out]; rfl, hBr⟩
      · rw [decide_eq_false hm] at hlook
        cases ha : accB n x with
        | false =>
          rw [ha] at hac
          have HDF := Lib.hid (hbad ha)
          have HAC := Lib.hid hac
          clear hmet hbad hsn hnd hacc hm hac ha hS hE hs1
          go_wp2_with (go_at_call 68; (with_reducible refine (HAC.out _ hbc).mono ?_); rintro e w1 ⟨rfl, rfl⟩)
          go_ret
          exact ⟨by rw [HDF.out]; rfl, hBr⟩
        | true =>
          rw [ha] at hac
          have HAC := Lib.hid hac
          obtain ⟨w2, hput, hS2, hgr⟩ := hS.put Tryz.underlying134 Tryz.underlying3 hm
          have fin : Below w.heap.size w w2 ∧ w.heap.size < w2.heap.size ∧ SetI w2 w.heap.size (l.take (k + 1)) ∧ (l.take (k + 1)).Nodup ∧ ∀ i, i < k + 1 → accB n (l.getD i default) = true := by
            refine ⟨hBr.grown hgr hBr.size (fun r e => by injection e with e; omega), Nat.lt_of_lt_of_le hzr hgr.size, by rw [hsn]; exact hS2, ?_, ?_⟩
            · rw [hsn, List.nodup_append]
              exact ⟨hnd, by simp, fun a h1 b h2 e => by rw [List.mem_singleton] at h2; exact hm (h2 ▸ e ▸ h1)⟩
            · intro i hi
              by_cases e : i = k
              · rw [e, hx]; exact ha
              · exact hacc i (by omega)
          have FIN := Lib.hid fin
          clear hmet hbad hsn hnd hacc hm hac ha hS hS2 hE hs1 fin hgr
          go_wp2_with (go_at_call 68; (with_reducible refine (HAC.out _ hbc).mono ?_); rintro e w1 ⟨rfl, rfl⟩)
          go_roundg (gk - 1)
          case measure => omega
          case rel => exact ⟨k + 1, by first | rfl | go_num, by omega, FIN.out⟩
    · obtain rfl : k = l.length := by omega
      have hd : diffB n l = true := by
        unfold diffB
        rw [List.take_length] at hnd
        rw [decide_eq_true hnd, Bool.true_and, List.all_eq_true]
        intro x hx
        obtain ⟨i, hi, rfl⟩ := List.getElem_of_mem hx
        have := hacc i hi
        rwa [List.getD_eq_getElem?_getD, List.getElem?_eq_getElem hi] at this
      have HDF := Lib.hid hd
      clear hd
      go_wp2_with fail
      go_ret
      exact ⟨by rw [HDF.out]; rfl, hBr⟩
set_option maxRecDepth 100000 in
theorem permutation_any (l : List Int) (v : Value) (w : World) (hl : SlI w w.heap.size v l) :
    Calls Tryz.prog 41 #[v] w fun e w' => e = .returned (.bool (permB l)) ∧ Below w.heap.size w w' := by
  have HL := Lib.hid hl
  obtain ⟨_, A, c, rfl, _⟩ := id hl
  clear hl
  unfold permB
  have hB := below_alloc' w (.cells #[.slice A l.length c] 23)
  have r0 := Row.new w 23 [Value.slice A l.length c]
  obtain ⟨W, hW⟩ : ∃ W, w.alloc (.cells #[.slice A l.length c] 23) = W := ⟨_, rfl⟩
  replace r0 : Row W w.heap.size 23 [.slice A l.length c] := hW ▸ r0
  rw [hW] at hB
  have k0 := st1c r0
  have hd := diffI_any l A c w.heap.size A l.length c W ((HL.out.below hB).mono hB.size) k0 r0.lt
  have HD := Lib.hid hd
  clear hd r0
  go_enter Tryz.func41, Tryz.ntmps41
  go_upto_region 1 with fail
  clear hW
  go_wp2_with (go_at_call 67; (with_reducible refine HD.out.mono ?_); rintro e w1 ⟨rfl, hb⟩)
  go_ret
  exact ⟨rfl, hB.trans (hb.mono hB.size)⟩
end Go.Proofs.YthboebhghaabnaaGreatDoor

set_option linter.unusedSimpArgs false
set_option linter.unusedVariables false
namespace Go.Proofs.YthboebhghaabnaaGreatDoor
open Go.RowKit Fk Sha
/-! Letters in form; bits; a turn that is right. -/
theorem SlS_get {w : World} {B0 : Nat} {v : Value} {l : List Se} (h : SlS w B0 v l) {k : Nat} (hk : k < l.length) : ∃ b o c, v = .slice (some ⟨b, o, none⟩) l.length c ∧ b < B0 ∧
    w.cell? ⟨b, o + k * 6, none⟩ = some (.int .i64 (l.getD k default).x.a) ∧ w.cell? ⟨b, o + k * 6 + 1, none⟩ = some (.int .i64 (l.getD k default).x.b) ∧
    w.cell? ⟨b, o + k * 6 + 2, none⟩ = some (.int .i64 (l.getD k default).y.a) ∧ w.cell? ⟨b, o + k * 6 + 3, none⟩ = some (.int .i64 (l.getD k default).y.b) ∧
    w.cell? ⟨b, o + k * 6 + 4, none⟩ = some (.int .i64 (l.getD k default).z.a) ∧ w.cell? ⟨b, o + k * 6 + 5, none⟩ = some (.int .i64 (l.getD k default).z.b) := by
  obtain ⟨_, A, c, hv, hE⟩ := h
  obtain ⟨b, o, rfl, hb, hE⟩ := hE (by omega)
  exact ⟨b, o, c, hv, hb, hE k hk 0 (by omega), hE k hk 1 (by omega), hE k hk 2 (by omega), hE k hk 3 (by omega), hE k hk 4 (by omega), hE k hk 5 (by omega)⟩
set_option maxRecDepth 100000 in
set_option maxHeartbeats 1000000 in
theorem bad_any (s : Se) (w : World) :
    Calls Tryz.prog 44 #[s.val] w fun e w' => e = .returned (.bool (!okS s)) ∧ Below w.heap.size w w' := by
  have hm := fun w => echeck_any s w
  unfold Se.val at hm ⊢
  have hB := below_alloc' w (.cells #[.int .i64 s.x.a, .int .i64 s.x.b, .int .i64 s.y.a, .int .i64 s.y.b, .int .i64 s.z.a, .int .i64 s.z.b] 45)
  obtain ⟨b, hb⟩ : ∃ b, okS s = b := ⟨_, rfl⟩
  have hc : chS s = if b then 0 else 100 := by unfold chS; rw [hb]
  rw [hb]
  rw [hc] at hm
  obtain ⟨x0, h0⟩ : ∃ x, s.x.a = x := ⟨_, rfl⟩
  obtain ⟨x1, h1⟩ : ∃ x, s.x.b = x := ⟨_, rfl⟩
  obtain ⟨x2, h2⟩ : ∃ x, s.y.a = x := ⟨_, rfl⟩
  obtain ⟨x3, h3⟩ : ∃ x, s.y.b = x := ⟨_, rfl⟩
  obtain ⟨x4, h4⟩ : ∃ x, s.z.a = x := ⟨_, rfl⟩
  obtain ⟨x5, h5⟩ : ∃ x, s.z.b = x := ⟨_, rfl⟩
  rw [h0, h1, h2, h3, h4, h5] at hm hB ⊢
  clear hb hc h0 h1 h2 h3 h4 h5
  cases b
  all_goals
    simp only [if_true, Bool.false_eq_true, if_false] at hm
    have HM := Lib.hid hm
    clear hm
    go_enter Tryz.func44, Tryz.ntmps44
    go_wp2_with (go_at_call 45; (with_reducible refine (HM.out _).mono ?_); rintro e w1 ⟨rfl, hb⟩)
    go_ret
    exact ⟨rfl, hB.trans (hb.mono hB.size)⟩
set_option maxRecDepth 100000 in
set_option maxHeartbeats 2000000 in
theorem index_bad (l : List Se) (v : Value) (w : World) (h : SlS w w.heap.size v l) :
    Calls Tryz.prog 69 #[v, .func (Fn.func 44) #[] #[]] w fun e w' => ∃ k : Int, e = .returned (.int .i64 k) ∧ (0 ≤ k ↔ l.all okS = false) ∧ Below w.heap.size w w' := by
  have HS := Lib.hid h
  obtain ⟨hlen, A, c, rfl, _⟩ := h
  go_enter Tryz.func69, Tryz.ntmps69
  go_wp2_with fail
  go_loopg [8] l.length (fun g iv wr => Below w.heap.size w wr ∧ ∃ k : Nat, iv = .int .i64 k ∧ k + g = l.length ∧ Hid (∀ i, i < k → okS (l.getD i default) = true))
  case atStart => exact ⟨Below.refl _ _, 0, rfl, by omega, fun i hi => absurd hi (by omega)⟩
  case round =>
    obtain ⟨hBr, k, rfl, hkg, hall⟩ := hrel
    have hzr := hBr.size
    by_cases hlt : k < l.length
    · obtain ⟨b, o, c', hv, hbb, d0, d1, d2, d3, d4, d5⟩ := SlS_get (HS.out.below hBr) hlt
      cases hv
      have hbad : okS (l.getD k default) = false → l.all okS = false := fun e => by
        rw [List.all_eq_false]
        refine ⟨l.getD k default, ?_, by rw [e]; decide⟩
        rw [List.getD_eq_getElem?_getD, List.getElem?_eq_getElem hlt]
        exact List.getElem_mem _
      obtain ⟨s, hs⟩ : ∃ s, l.getD k default = s := ⟨_, rfl⟩
      rw [hs] at d0 d1 d2 d3 d4 d5 hbad
      have hm := fun w => bad_any s w
      unfold Se.val at hm
      have s1 : (0 : Int) ≤ k := by omega
      have s2 : (k : Int) < l.length := by omega
      cases hok : okS s with
      | true =>
        rw [hok] at hm
        have HA : Hid (∀ i, i < k + 1 → okS (l.getD i default) = true) := fun i hi => by
          by_cases e : i = k
          · rw [e, hs]; exact hok
          · exact hall.out i (by omega)
        have HM := Lib.hid hm
        clear hm hs hok hall hbad
        go_wp2_with (go_at_call 44; (with_reducible refine (HM.out _).mono ?_); rintro e w1 ⟨rfl, hb⟩)
        go_roundg (gk - 1)
        case measure => omega
        case rel => exact ⟨hBr.trans (hb.mono hzr), k + 1, by first | rfl | go_num, by omega, HA⟩
      | false =>
        rw [hok] at hm
        have hf := hbad hok
        have HM := Lib.hid hm
        have HF := Lib.hid hf
        clear hm hs hok hall hbad hf
        go_wp2_with (go_at_call 44; (with_reducible refine (HM.out _).mono ?_); rintro e w1 ⟨rfl, hb⟩)
        go_ret
        exact ⟨k, rfl, ⟨fun _ => HF.out, fun _ => by omega⟩, hBr.trans (hb.mono hzr)⟩
    · obtain rfl : k = l.length := by omega
      go_wp2_with fail
      go_ret
      refine ⟨-1, rfl, ⟨fun h => absurd h (by omega), fun h => ?_⟩, hBr⟩
      exfalso
      rw [List.all_eq_false] at h
      obtain ⟨x, hx, hx2⟩ := h
      obtain ⟨i, hi, rfl⟩ := List.getElem_of_mem hx
      have := hall.out i hi
      rw [List.getD_eq_getElem?_getD, List.getElem?_eq_getElem hi] at this
      exact hx2 this
set_option maxRecDepth 100000 in
set_option maxHeartbeats 1000000 in
theorem contains_bad (l : List Se) (v : Value) (w : World) (h : SlS w w.heap.size v l) :
    Calls Tryz.prog 43 #[v, .func (Fn.func 44) #[] #[]] w fun e w' => e = .returned (.bool (!(l.all okS))) ∧ Below w.heap.size w w' := by
  have hm := index_bad l v w h
  obtain ⟨b, hb⟩ : ∃ b, l.all okS = b := ⟨_, rfl⟩
  rw [hb] at hm ⊢
  have HM := Lib.hid hm
  clear hm hb h
  cases b
  all_goals
    go_enter Tryz.func43, Tryz.ntmps43
    go_wp2_with (go_at_call 69; (with_reducible refine HM.out.mono ?_); rintro e w1 ⟨k, rfl, hk, hb⟩; first | (have hd : decide ((0 : Int) ≤ k) = true := decide_eq_true (hk.2 rfl)) | (have hd : decide ((0 : Int) ≤ k) = false := decide_eq_false (fun h => by have := hk.1 h; cases this)))
    go_ret
    exact ⟨by first | rfl | (rw [hd]; rfl), hb⟩
set_option maxRecDepth 100000 in
theorem formed_any (l : List Se) (v : Value) (w : World) (h : SlS w w.heap.size v l) :
    Calls Tryz.prog 23 #[v] w fun e w' => e = .returned (.bool (l.all okS)) ∧ Below w.heap.size w w' := by
  have hm := contains_bad l v w h
  obtain ⟨b, hb⟩ : ∃ b, l.all okS = b := ⟨_, rfl⟩
  rw [hb] at hm ⊢
  have HM := Lib.hid hm
  clear hm hb h
  cases b
  all_goals
    go_enter Tryz.func23, Tryz.ntmps23
    go_wp2_with (go_at_call 43; (with_reducible refine HM.out.mono ?_); rintro e w1 ⟨rfl, hb⟩)
    go_ret
    exact ⟨rfl, hb⟩
def bitB (n : Int) : Bool := decide (n = 0) || decide (n = 1)
set_option maxRecDepth 100000 in
theorem bit_any (n : Int) (w : World) : Calls Tryz.prog 65 #[.int .i64 n] w fun e w' => e = .returned (.bool (bitB n)) ∧ w = w' := by
  unfold bitB
  by_cases h0 : n = 0
  · subst h0
    go_enter Tryz.func65, Tryz.ntmps65
    go_wp2_with fail
    go_ret
    exact ⟨rfl, rfl⟩
  · rw [decide_eq_false h0, Bool.false_or]
    by_cases h1 : n = 1
    · subst h1
      go_enter Tryz.func65, Tryz.ntmps65
      go_wp2_with fail
      go_ret
      exact ⟨rfl, rfl⟩
    · rw [decide_eq_false h1]
      go_enter Tryz.func65, Tryz.ntmps65
      go_wp2_with fail
      go_ret
      exact ⟨by simp [h0, h1], rfl⟩
set_option maxRecDepth 100000 in
theorem nobit_any (n : Int) (w : World) : Calls Tryz.prog 64 #[.int .i64 n] w fun e w' => e = .returned (.bool (!bitB n)) ∧ Below w.heap.size w w' := by
  have hm := fun w => bit_any n w
  obtain ⟨b, hb⟩ : ∃ b, bitB n = b := ⟨_, rfl⟩
  rw [hb] at hm ⊢
  have HM := Lib.hid hm
  clear hm hb
  have hB := Below.refl w.heap.size w
  cases b
  all_goals
    go_enter Tryz.func64, Tryz.ntmps64
    go_wp2_with (go_at_call 65; (with_reducible refine (HM.out _).mono ?_); rintro e w1 ⟨rfl, rfl⟩)
    go_ret
    exact ⟨rfl, hB⟩
set_option maxRecDepth 100000 in
set_option maxHeartbeats 2000000 in
theorem index_nobit (l : List Int) (v : Value) (w : World) (h : SlI w w.heap.size v l) :
    Calls Tryz.prog 84 #[v, .func (Fn.func 64) #[] #[]] w fun e w' => ∃ k : Int, e = .returned (.int .i64 k) ∧ (0 ≤ k ↔ l.all bitB = false) ∧ Below w.heap.size w w' := by
  have HS := Lib.hid h
  obtain ⟨hlen, A, c, rfl, _⟩ := h
  go_enter Tryz.func84, Tryz.ntmps84
  go_wp2_with fail
  go_loopg [8] l.length (fun g iv wr => Below w.heap.size w wr ∧ ∃ k : Nat, iv = .int .i64 k ∧ k + g = l.length ∧ Hid (∀ i, i < k → bitB (l.getD i default) = true))
  case atStart => exact ⟨Below.refl _ _, 0, rfl, by omega, fun i hi => absurd hi (by omega)⟩
  case round =>
    obtain ⟨hBr, k, rfl, hkg, hall⟩ := hrel
    have hzr := hBr.size
    by_cases hlt : k < l.length
    · obtain ⟨_, A', c', hv, hE⟩ := HS.out.below hBr
      obtain ⟨b, o, rfl, hbb, hE⟩ := hE (by omega)
      cases hv
      have d0 := hE.int hlt
      clear hE
      have hbad : bitB (l.getD k default) = false → l.all bitB = false := fun e => by
        rw [List.all_eq_false]
        refine ⟨l.getD k default, ?_, by rw [e]; decide⟩
        rw [List.getD_eq_getElem?_getD, List.getElem?_eq_getElem hlt]
        exact List.getElem_mem _
      obtain ⟨s, hs⟩ : ∃ s, l.getD k default = s := ⟨_, rfl⟩
      rw [hs] at d0 hbad
      have hm := fun w => nobit_any s w
      have s1 : (0 : Int) ≤ k := by omega
      have s2 : (k : Int) < l.length := by omega
      cases hok : bitB s with
      | true =>
        rw [hok] at hm
        have HA : Hid (∀ i, i < k + 1 → bitB (l.getD i default) = true) := fun i hi => by
          by_cases e : i = k
          · rw [e, hs]; exact hok
          · exact hall.out i (by omega)
        have HM := Lib.hid hm
        clear hm hs hok hall hbad
        go_wp2_with (go_at_call 64; (with_reducible refine (HM.out _).mono ?_); rintro e w1 ⟨rfl, hb⟩)
        go_roundg (gk - 1)
        case measure => omega
        case rel => exact ⟨hBr.trans (hb.mono hzr), k + 1, by first | rfl | go_num, by omega, HA⟩
      | false =>
        rw [hok] at hm
        have hf := hbad hok
        have HM := Lib.hid hm
        have HF := Lib.hid hf
        clear hm hs hok hall hbad hf
        go_wp2_with (go_at_call 64; (with_reducible refine (HM.out _).mono ?_); rintro e w1 ⟨rfl, hb⟩)
        go_ret
        exact ⟨k, rfl, ⟨fun _ => HF.out, fun _ => by omega⟩, hBr.trans (hb.mono hzr)⟩
    · obtain rfl : k = l.length := by omega
      go_wp2_with fail
      go_ret
      refine ⟨-1, rfl, ⟨fun h => absurd h (by omega), fun h => ?_⟩, hBr⟩
      exfalso
      rw [List.all_eq_false] at h
      obtain ⟨x, hx, hx2⟩ := h
      obtain ⟨i, hi, rfl⟩ := List.getElem_of_mem hx
      have := hall.out i hi
      rw [List.getD_eq_getElem?_getD, List.getElem?_eq_getElem hi] at this
      exact hx2 this
set_option maxRecDepth 100000 in
set_option maxHeartbeats 1000000 in
theorem contains_nobit (l : List Int) (v : Value) (w : World) (h : SlI w w.heap.size v l) :
    Calls Tryz.prog 63 #[v, .func (Fn.func 64) #[] #[]] w fun e w' => e = .returned (.bool (!(l.all bitB))) ∧ Below w.heap.size w w' := by
  have hm := index_nobit l v w h
  obtain ⟨b, hb⟩ : ∃ b, l.all bitB = b := ⟨_, rfl⟩
  rw [hb] at hm ⊢
  have HM := Lib.hid hm
  clear hm hb h
  cases b
  all_goals
    go_enter Tryz.func63, Tryz.ntmps63
    go_wp2_with (go_at_call 84; (with_reducible refine HM.out.mono ?_); rintro e w1 ⟨k, rfl, hk, hb⟩; first | (have hd : decide ((0 : Int) ≤ k) = true := decide_eq_true (hk.2 rfl)) | (have hd : decide ((0 : Int) ≤ k) = false := decide_eq_false (fun h => by have := hk.1 h; cases this)))
    go_ret
    exact ⟨by first | rfl | (rw [hd]; rfl), hb⟩
set_option maxRecDepth 100000 in
theorem binary_any (l : List Int) (v : Value) (w : World) (h : SlI w w.heap.size v l) :
    Calls Tryz.prog 35 #[v] w fun e w' => e = .returned (.bool (l.all bitB)) ∧ Below w.heap.size w w' := by
  have hm := contains_nobit l v w h
  obtain ⟨b, hb⟩ : ∃ b, l.all bitB = b := ⟨_, rfl⟩
  rw [hb] at hm ⊢
  have HM := Lib.hid hm
  clear hm hb h
  cases b
  all_goals
    go_enter Tryz.func35, Tryz.ntmps35
    go_wp2_with (go_at_call 63; (with_reducible refine HM.out.mono ?_); rintro e w1 ⟨rfl, hb⟩)
    go_ret
    exact ⟨rfl, hb⟩
end Go.Proofs.YthboebhghaabnaaGreatDoor

set_option linter.unusedSimpArgs false
set_option linter.unusedVariables false
namespace Go.Proofs.YthboebhghaabnaaGreatDoor
open Go.RowKit Fk Sha
/-! A turn that is right. -/
theorem ridx0 (a b c d e : Int) (w : World) : (Instr.index 94 (.agg #[.int .i64 a, .int .i64 b, .int .i64 c, .int .i64 d, .int .i64 e]) (.int .i64 0)).run Tryz.prog w = .ok (.int .i64 a) w := by kernel_rfl
theorem ridx1 (a b c d e : Int) (w : World) : (Instr.index 94 (.agg #[.int .i64 a, .int .i64 b, .int .i64 c, .int .i64 d, .int .i64 e]) (.int .i64 1)).run Tryz.prog w = .ok (.int .i64 b) w := by kernel_rfl
theorem ridx2 (a b c d e : Int) (w : World) : (Instr.index 94 (.agg #[.int .i64 a, .int .i64 b, .int .i64 c, .int .i64 d, .int .i64 e]) (.int .i64 2)).run Tryz.prog w = .ok (.int .i64 c) w := by kernel_rfl
theorem ridx3 (a b c d e : Int) (w : World) : (Instr.index 94 (.agg #[.int .i64 a, .int .i64 b, .int .i64 c, .int .i64 d, .int .i64 e]) (.int .i64 3)).run Tryz.prog w = .ok (.int .i64 d) w := by kernel_rfl
theorem ridx4 (a b c d e : Int) (w : World) : (Instr.index 94 (.agg #[.int .i64 a, .int .i64 b, .int .i64 c, .int .i64 d, .int .i64 e]) (.int .i64 4)).run Tryz.prog w = .ok (.int .i64 e) w := by kernel_rfl
/-- a turn that is right for n letters -/
def rightB (t : Tn) (n : Nat) : Bool := (decide (t.l.length = n) && (decide (t.r.length = n) && (decide (t.rl.length = n) && (decide (t.rr.length = n) && decide (t.s.length = n))))) && (decide (n ≤ 64) && (permB t.l && permB t.r))
set_option maxRecDepth 100000 in
set_option maxHeartbeats 8000000 in
theorem right_any (t : Tn) (x : TnA) (n : Nat) (w : World) (h : TnS w w.heap.size x t) :
    Calls Tryz.prog 24 #[.agg (x.cells t).toArray, .int .i64 n] w fun e w' => e = .returned (.bool (rightB t n)) ∧ Below w.heap.size w w' := by
  have hR : rightB t n = ((decide (t.l.length = n) && (decide (t.r.length = n) && (decide (t.rl.length = n) && (decide (t.rr.length = n) && decide (t.s.length = n))))) && (decide (n ≤ 64) && (permB t.l && permB t.r))) := rfl
  have hB := below_alloc' w (.cells (x.cells t).toArray 27)
  have r0 := Row.new w 27 (x.cells t)
  have h2 := h.below hB
  obtain ⟨W, hW⟩ : ∃ W, w.alloc (.cells (x.cells t).toArray 27) = W := ⟨_, rfl⟩
  replace r0 : Row W w.heap.size 27 (x.cells t) := hW ▸ r0
  rw [hW] at hB h2
  have q1 := fun (w' : World) (hb : Below W.heap.size W w') => permutation_any t.l _ w' ((h2.l.mono hB.size |>.below hb).mono hb.size)
  have q2 := fun (w' : World) (hb : Below W.heap.size W w') => permutation_any t.r _ w' ((h2.r.mono hB.size |>.below hb).mono hb.size)
  unfold TnA.cells at r0 hW ⊢
  replace hW : w.alloc (.cells #[.slice x.al t.l.length x.cl, .slice x.ar t.r.length x.cr, .slice x.arl t.rl.length x.crl, .slice x.arr t.rr.length x.crr, .slice x.at_ t.s.length x.ct] 27) = W := hW
  have c0 : W.cell? ⟨w.heap.size, 0, none⟩ = some _ := r0.cell 0
  have c1 : W.cell? ⟨w.heap.size, 1, none⟩ = some _ := r0.cell 1
  have c2 : W.cell? ⟨w.heap.size, 2, none⟩ = some _ := r0.cell 2
  have c3 : W.cell? ⟨w.heap.size, 3, none⟩ = some _ := r0.cell 3
  have c4 : W.cell? ⟨w.heap.size, 4, none⟩ = some _ := r0.cell 4
  have hlt := r0.lt
  obtain ⟨b1, hb1⟩ : ∃ b, permB t.l = b := ⟨_, rfl⟩
  obtain ⟨b2, hb2⟩ : ∃ b, permB t.r = b := ⟨_, rfl⟩
  rw [hb1] at q1 hR
  rw [hb2] at q2 hR
  rw [hR]
  have Q1 := Lib.hid q1
  have Q2 := Lib.hid q2
  have H0 := Lib.hid h2
  clear q1 q2 hR hb1 hb2 h2 h r0
  have i0 := ridx0
  have i1 := ridx1
  have i2 := ridx2
  have i3 := ridx3
  have i4 := ridx4
  generalize t.l.length = m0 at *
  generalize t.r.length = m1 at *
  generalize t.rl.length = m2 at *
  generalize t.rr.length = m3 at *
  generalize t.s.length = m4 at *
  by_cases e0 : m0 = n
  · subst e0
    by_cases e1 : m1 = m0
    · subst e1
      by_cases e2 : m2 = m1
      · subst e2
        by_cases e3 : m3 = m2
        · subst e3
          by_cases e4 : m4 = m3
          · subst e4
            simp only [decide_true, Bool.true_and]
            by_cases e5 : m4 ≤ 64
            · have d5 : ((m4 : Int) ≤ 64) := by omega
              rw [decide_eq_true e5, Bool.true_and]
              clear e5
              cases b1
              · rw [Bool.false_and]
                go_enter Tryz.func24, Tryz.ntmps24
                go_upto_region 1 with fail
                try rw [hW]
                clear hW
                go_wp2_with fail
                refine wp_loop_rounds 6 ?_
                rw [rounds_succ]
                go_wp2_with fail
                rw [rounds_succ]
                go_wp2_with fail
                rw [rounds_succ]
                go_wp2_with fail
                rw [rounds_succ]
                go_wp2_with fail
                rw [rounds_succ]
                go_wp2_with fail
                rw [rounds_succ]
                go_wp2_with (go_at_call 41; (with_reducible refine (Q1.out _ (Below.refl _ _)).mono ?_); rintro e w1 ⟨rfl, hb1⟩)
                go_ret
                exact ⟨rfl, hB.trans (hb1.mono hB.size)⟩
              · rw [Bool.true_and]
                go_enter Tryz.func24, Tryz.ntmps24
                go_upto_region 1 with fail
                try rw [hW]
                clear hW
                go_wp2_with fail
                refine wp_loop_rounds 6 ?_
                rw [rounds_succ]
                go_wp2_with fail
                rw [rounds_succ]
                go_wp2_with fail
                rw [rounds_succ]
                go_wp2_with fail
                rw [rounds_succ]
                go_wp2_with fail
                rw [rounds_succ]
                go_wp2_with fail
                rw [rounds_succ]
                go_wp2_with (first | (go_at_call 41; (with_reducible refine (Q1.out _ (Below.refl _ _)).mono ?_); rintro e w1 ⟨rfl, hb1⟩; have g1 : w1.cell? ⟨w.heap.size, 1, none⟩ = _ := (hb1.cell (p := ⟨w.heap.size, 1, none⟩) hlt).trans c1) | (go_at_call 41; (with_reducible refine (Q2.out _ hb1).mono ?_); rintro e w2 ⟨rfl, hb2⟩))
                go_ret
                exact ⟨by simp, (hB.trans (hb1.mono hB.size)).trans (hb2.mono (Nat.le_trans hB.size hb1.size))⟩
            · have d5 : ¬ ((m4 : Int) ≤ 64) := by omega
              rw [decide_eq_false e5, Bool.false_and]
              clear e5
              go_enter Tryz.func24, Tryz.ntmps24
              go_upto_region 1 with fail
              try rw [hW]
              clear hW
              go_wp2_with fail
              refine wp_loop_rounds 6 ?_
              rw [rounds_succ]
              go_wp2_with fail
              rw [rounds_succ]
              go_wp2_with fail
              rw [rounds_succ]
              go_wp2_with fail
              rw [rounds_succ]
              go_wp2_with fail
              rw [rounds_succ]
              go_wp2_with fail
              rw [rounds_succ]
              go_wp2_with fail
              go_ret
              exact ⟨rfl, hB⟩
          · have n4 : ¬ ((m4 : Int) = m3) := by omega
            rw [decide_eq_false e4]
            simp only [Bool.false_and, Bool.and_false, decide_true, Bool.true_and]
            clear e4
            go_enter Tryz.func24, Tryz.ntmps24
            go_upto_region 1 with fail
            try rw [hW]
            clear hW
            go_wp2_with fail
            refine wp_loop_rounds 6 ?_
            rw [rounds_succ]
            go_wp2_with fail
            rw [rounds_succ]
            go_wp2_with fail
            rw [rounds_succ]
            go_wp2_with fail
            rw [rounds_succ]
            go_wp2_with fail
            rw [rounds_succ]
            go_wp2_with fail
            go_ret
            exact ⟨rfl, hB⟩
        · have n3 : ¬ ((m3 : Int) = m2) := by omega
          rw [decide_eq_false e3]
          simp only [Bool.false_and, Bool.and_false, decide_true, Bool.true_and]
          clear e3
          go_enter Tryz.func24, Tryz.ntmps24
          go_upto_region 1 with fail
          try rw [hW]
          clear hW
          go_wp2_with fail
          refine wp_loop_rounds 6 ?_
          rw [rounds_succ]
          go_wp2_with fail
          rw [rounds_succ]
          go_wp2_with fail
          rw [rounds_succ]
          go_wp2_with fail
          rw [rounds_succ]
          go_wp2_with fail
          go_ret
          exact ⟨rfl, hB⟩
      · have n2 : ¬ ((m2 : Int) = m1) := by omega
        rw [decide_eq_false e2]
        simp only [Bool.false_and, Bool.and_false, decide_true, Bool.true_and]
        clear e2
        go_enter Tryz.func24, Tryz.ntmps24
        go_upto_region 1 with fail
        try rw [hW]
        clear hW
        go_wp2_with fail
        refine wp_loop_rounds 6 ?_
        rw [rounds_succ]
        go_wp2_with fail
        rw [rounds_succ]
        go_wp2_with fail
        rw [rounds_succ]
        go_wp2_with fail
        go_ret
        exact ⟨rfl, hB⟩
    · have n1 : ¬ ((m1 : Int) = m0) := by omega
      rw [decide_eq_false e1]
      simp only [Bool.false_and, Bool.and_false, decide_true, Bool.true_and]
      clear e1
      go_enter Tryz.func24, Tryz.ntmps24
      go_upto_region 1 with fail
      try rw [hW]
      clear hW
      go_wp2_with fail
      refine wp_loop_rounds 6 ?_
      rw [rounds_succ]
      go_wp2_with fail
      rw [rounds_succ]
      go_wp2_with fail
      go_ret
      exact ⟨rfl, hB⟩
  · have n0 : ¬ ((m0 : Int) = n) := by omega
    rw [decide_eq_false e0]
    simp only [Bool.false_and, Bool.and_false, decide_true, Bool.true_and]
    clear e0
    go_enter Tryz.func24, Tryz.ntmps24
    go_upto_region 1 with fail
    try rw [hW]
    clear hW
    go_wp2_with fail
    refine wp_loop_rounds 6 ?_
    rw [rounds_succ]
    go_wp2_with fail
    go_ret
    exact ⟨rfl, hB⟩
end Go.Proofs.YthboebhghaabnaaGreatDoor

set_option linter.unusedSimpArgs false
namespace Go.Proofs.YthboebhghaabnaaGreatDoor
open Fk
def eqCi (s t : Ci) : Bool := s.a == t.a && s.b == t.b
def eqSe (s t : Se) : Bool := eqCi s.x t.x && (eqCi s.y t.y && eqCi s.z t.z)
def eqTr (s t : Tr) : Bool := s.p == t.p && (s.q == t.q && s.r == t.r)
theorem runC (d : Nat) (s t : Ci) (w : World) : (Op.equalIn (d + 1 + 1) 43 s.val t.val).run Tryz.prog w = .ok (eqCi s t) w := by
  have u3 := Tryz.underlying3
  have a3 := Tryz.isAgg3
  have z3 := Tryz.sizeOf3
  have hS : Tryz.prog.underlying 43 = some (.struct (Tryz.prog.fieldsOf 43)) := by kernel_rfl
  unfold Ci.val eqCi
  rw [run_equalIn_struct w (d + 1) 43 _ _ hS (by kernel_rfl)]
  simp only [Program.fieldsOf, Tryz.underlying43]
  go_simp
  by_cases h1 : s.a = t.a <;> by_cases h2 : s.b = t.b <;> simp [h1, h2]
theorem partC (cs : Array Value) (k : Nat) (c : Ci) (h : cs.extract k (k + 2) = #[.int .i64 c.a, .int .i64 c.b]) (w : World) : (part 43 cs k).run Tryz.prog w = .ok c.val w := by
  have a3 := Tryz.isAgg43
  have z3 := Tryz.sizeOf43
  simp [part, a3, z3, go_sem, h, Ci.val]
theorem runS (s t : Se) (w : World) : (Op.equalIn 10000 45 s.val t.val).run Tryz.prog w = .ok (eqSe s t) w := by
  have z3 := Tryz.sizeOf43
  have e1 := fun w => runC 9997 s.x t.x w
  have e2 := fun w => runC 9997 s.y t.y w
  have e3 := fun w => runC 9997 s.z t.z w
  have hq : eqSe s t = (eqCi s.x t.x && (eqCi s.y t.y && eqCi s.z t.z)) := rfl
  rw [hq]
  clear hq
  unfold Se.val
  generalize eqCi s.x t.x = b1 at *
  generalize eqCi s.y t.y = b2 at *
  generalize eqCi s.z t.z = b3 at *
  rw [show (10000 : Nat) = 9999 + 1 from rfl, Op.equalIn]
  simp only [Sem.run_bind, run_underlying Tryz.underlying45, Result.andThen_ok]
  simp only [Std.Legacy.Range.forIn_eq_forIn_range', Std.Legacy.Range.size, Nat.sub_zero, Nat.add_sub_cancel, Nat.div_one, List.range'_succ, List.range'_zero, List.forIn_cons, List.forIn_nil]
  have h1 := fun w => partC (s.cells.toArray) 0 s.x rfl w
  have h2 := fun w => partC (s.cells.toArray) 2 s.y rfl w
  have h3 := fun w => partC (s.cells.toArray) 4 s.z rfl w
  have k1 := fun w => partC (t.cells.toArray) 0 t.x rfl w
  have k2 := fun w => partC (t.cells.toArray) 2 t.y rfl w
  have k3 := fun w => partC (t.cells.toArray) 4 t.z rfl w
  simp only [Se.cells] at h1 h2 h3 k1 k2 k3
  rw [show (9999 : Nat) = 9997 + 1 + 1 from rfl]
  cases b1 <;> cases b2 <;> cases b3 <;> simp only [z3, Result.andThen_ok, Nat.zero_mul, Nat.zero_add, Nat.one_mul, Nat.reduceMul, Nat.reduceAdd, Sem.run_bind, h1, h2, h3, k1, k2, k3, e1, e2, e3, Bool.not_true, Bool.not_false, Bool.false_eq_true, if_true, if_false, Sem.run_pure, Bool.and_self, Bool.and_true, Bool.and_false, Bool.true_and, Bool.false_and]
theorem eqCi_self (c : Ci) : eqCi c c = true := by simp [eqCi]
theorem eqSe_self (s : Se) : eqSe s s = true := by simp [eqSe, eqCi]
theorem eqTr_self (s : Tr) : eqTr s s = true := by simp [eqTr]
end Go.Proofs.YthboebhghaabnaaGreatDoor

set_option linter.unusedSimpArgs false
set_option linter.unusedVariables false
namespace Go.Proofs.YthboebhghaabnaaGreatDoor
open Go.RowKit Fk Sha
/-! Equality of digests and of openings. -/
theorem bn_inj {a b : B} (h : bn a = bn b) : a = b := by
  unfold bn at h
  exact BitVec.eq_of_toNat_eq (by omega)
theorem items_bytes (d : Nat) (xs ys : List B) (w : World) : ∀ (is : List Nat), (∀ i ∈ is, i < xs.length ∧ i < ys.length) →
    (Op.eqItems (d + 1) 5 1 (xs.map bv).toArray (ys.map bv).toArray is).run Tryz.prog w = .ok (is.all fun i => decide (xs.getD i default = ys.getD i default)) w
  | [], _ => by simp [Op.eqItems]
  | i :: is, h => by
    obtain ⟨h1, h2⟩ := h i (by simp)
    have ih := items_bytes d xs ys w is (fun j hj => h j (by simp [hj]))
    have e1 : (xs.map bv).toArray[i * 1]? = some (bv (xs.getD i default)) := by
      rw [Nat.mul_one, List.getElem?_toArray, List.getElem?_map, List.getElem?_eq_getElem h1, List.getD_eq_getElem?_getD, List.getElem?_eq_getElem h1]; rfl
    have e2 : (ys.map bv).toArray[i * 1]? = some (bv (ys.getD i default)) := by
      rw [Nat.mul_one, List.getElem?_toArray, List.getElem?_map, List.getElem?_eq_getElem h2, List.getD_eq_getElem?_getD, List.getElem?_eq_getElem h2]; rfl
    have hp : Tryz.prog.plainKey 5 = true := by kernel_rfl
    simp only [Op.eqItems, Sem.run_bind, run_part_plain w hp e1, run_part_plain w hp e2, Result.andThen_ok]
    rw [show bv (xs.getD i default) = .int .u8 (bn (xs.getD i default)) from rfl, show bv (ys.getD i default) = .int .u8 (bn (ys.getD i default)) from rfl, run_equalIn_int w d 5 .u8 .u8 _ _ Tryz.underlying5]
    simp only [Result.andThen_ok, List.all_cons]
    by_cases e : xs.getD i default = ys.getD i default
    · rw [e]
      simp only [beq_self_eq_true, Bool.not_true, Bool.false_eq_true, if_false, decide_true, Bool.true_and]
      exact ih
    · have : (bn (xs.getD i default) == bn (ys.getD i default)) = false := by
        rw [beq_eq_false_iff_ne]
        exact fun h => e (bn_inj h)
      rw [this, decide_eq_false e]
      simp
theorem range_all {xs ys : List B} {n : Nat} (h1 : xs.length = n) (h2 : ys.length = n) : ((List.range n).all fun i => decide (xs.getD i default = ys.getD i default)) = decide (xs = ys) := by
  by_cases e : xs = ys
  · subst e; simp
  · rw [decide_eq_false e, List.all_eq_false]
    rcases Classical.em (∃ i, i < n ∧ xs.getD i default ≠ ys.getD i default) with ⟨i, hi, h⟩ | h
    · exact ⟨i, by simpa using hi, by simpa using h⟩
    · exfalso
      refine e (List.ext_getElem (by omega) fun i g1 g2 => ?_)
      rcases Classical.em (xs.getD i default = ys.getD i default) with h3 | h3
      · rw [List.getD_eq_getElem?_getD, List.getElem?_eq_getElem g1, List.getD_eq_getElem?_getD, List.getElem?_eq_getElem g2] at h3
        exact h3
      · exact absurd ⟨i, by omega, h3⟩ h
/-- two digests -/
theorem runD (d : Nat) (xs ys : List B) (h1 : xs.length = 32) (h2 : ys.length = 32) (w : World) : (Op.equalIn (d + 1 + 1) 58 (.agg (xs.map bv).toArray) (.agg (ys.map bv).toArray)).run Tryz.prog w = .ok (decide (xs = ys)) w := by
  obtain ⟨i, hi⟩ := info_of_underlying Tryz.underlying5
  rw [run_equalIn_array w (d + 1) _ _ Tryz.underlying58 hi, show Tryz.prog.cellsOf 5 = 1 from by kernel_rfl, items_bytes d xs ys w (List.range 32) (fun i hi => by simp at hi; omega), range_all h1 h2]
theorem run3 (d : Nat) (s t : Tr) (w : World) : (Op.equalIn (d + 1 + 1) 56 s.val t.val).run Tryz.prog w = .ok (eqTr s t) w := by
  have u3 := Tryz.underlying3
  have a3 := Tryz.isAgg3
  have z3 := Tryz.sizeOf3
  unfold Tr.val eqTr
  rw [Op.equalIn]
  simp only [Sem.run_bind, run_underlying Tryz.underlying56, Result.andThen_ok]
  simp only [Std.Legacy.Range.forIn_eq_forIn_range', Std.Legacy.Range.size, Nat.sub_zero, Nat.add_sub_cancel, Nat.div_one, List.range'_succ, List.range'_zero, List.forIn_cons, List.forIn_nil]
  go_simp
  by_cases h1 : s.p = t.p <;> by_cases h2 : s.q = t.q <;> by_cases h3 : s.r = t.r <;> simp [h1, h2, h3]
def eqOg (o p : Og) : Bool := decide (o.a = p.a) && (eqTr o.r p.r && decide (o.s = p.s))
theorem Og.cells_array (o : Og) : o.cells.toArray = #[.int .i64 o.a, .int .i64 o.r.p, .int .i64 o.r.q, .int .i64 o.r.r] ++ (o.s.map bv).toArray := by
  unfold Og.cells
  apply Array.ext'
  simp
theorem part_og_r (o : Og) (w : World) : (part 56 o.cells.toArray 1).run Tryz.prog w = .ok o.r.val w := by
  have a3 := Tryz.isAgg56
  have z3 := Tryz.sizeOf56
  have e : o.cells.toArray.extract 1 (1 + 3) = #[.int .i64 o.r.p, .int .i64 o.r.q, .int .i64 o.r.r] := by
    apply Array.ext'
    simp [Og.cells]
  generalize o.cells.toArray = cs at e ⊢
  simp [part, a3, z3, go_sem, e, Tr.val]
theorem part_og_s (o : Og) (h : o.s.length = 32) (w : World) : (part 58 o.cells.toArray 4).run Tryz.prog w = .ok (.agg (o.s.map bv).toArray) w := by
  have a3 := Tryz.isAgg58
  have z3 := Tryz.sizeOf58
  have e : o.cells.toArray.extract 4 (4 + 32) = (o.s.map bv).toArray := by
    apply Array.ext'
    simp [Og.cells]
    rw [List.take_of_length_le (by simp [h])]
  generalize o.cells.toArray = cs at e ⊢
  simp [part, a3, z3, go_sem, e]
theorem part_og_a (o : Og) (w : World) : (part 3 o.cells.toArray 0).run Tryz.prog w = .ok (.int .i64 o.a) w := by
  have hp : Tryz.prog.plainKey 3 = true := by kernel_rfl
  exact run_part_plain w hp (by simp [Og.cells])
theorem runO (o p : Og) (h1 : o.s.length = 32) (h2 : p.s.length = 32) (w : World) : (Op.equalIn 10000 60 (.agg o.cells.toArray) (.agg p.cells.toArray)).run Tryz.prog w = .ok (eqOg o p) w := by
  have hS : Tryz.prog.underlying 60 = some (.struct (Tryz.prog.fieldsOf 60)) := by kernel_rfl
  have e1 := run3 9997 o.r p.r w
  have e2 := runD 9997 o.s p.s h1 h2 w
  rw [show (10000 : Nat) = 9999 + 1 from rfl, run_equalIn_struct w 9999 60 _ _ hS (by kernel_rfl)]
  simp only [Program.fieldsOf, Tryz.underlying60]
  simp only [Op.eqFields, ne_eq, String.reduceEq, not_false_eq_true, if_true, Sem.run_bind, part_og_a, part_og_r, part_og_s _ h1, part_og_s _ h2, Result.andThen_ok]
  rw [run_equalIn_int w 9998 3 .i64 .i64 _ _ Tryz.underlying3]
  simp only [Result.andThen_ok]
  rw [show (9999 : Nat) = 9997 + 1 + 1 from rfl]
  unfold eqOg
  generalize eqTr o.r p.r = b1 at *
  generalize decide (o.s = p.s) = b2 at *
  have key : ∀ k : Bool, (o.a == p.a) = k → decide (o.a = p.a) = k := fun k h => by
    cases k
    · exact decide_eq_false (beq_eq_false_iff_ne.1 h)
    · exact decide_eq_true (beq_iff_eq.1 h)
  cases hk : (o.a == p.a) <;> cases b1 <;> cases b2 <;> simp only [key _ hk, Bool.not_true, Bool.not_false, Bool.false_eq_true, if_true, if_false, Sem.run_bind, Sem.run_pure, part_og_r, part_og_s _ h1, part_og_s _ h2, Result.andThen_ok, e1, e2, Bool.true_and, Bool.false_and, Bool.and_self, Bool.and_true, Bool.and_false]
theorem eqTr_iff {s t : Tr} : eqTr s t = true ↔ s = t := by
  obtain ⟨a, b, c⟩ := s
  obtain ⟨x, y, z⟩ := t
  simp [eqTr]
theorem eqOg_iff {o p : Og} : eqOg o p = true ↔ o = p := by
  obtain ⟨a, b, c⟩ := o
  obtain ⟨x, y, z⟩ := p
  simp [eqOg, eqTr_iff]
end Go.Proofs.YthboebhghaabnaaGreatDoor

set_option linter.unusedSimpArgs false
set_option linter.unusedVariables false
namespace Go.Proofs.YthboebhghaabnaaGreatDoor
open Go.RowKit Fk Sha
/-! Mixes in plain words. -/
structure Mx where
  i : List Se
  m : List Se
  o : List Se
  l : List (List B)
  r : List (List B)
def tagL : ByteArray := ⟨#[108, 101, 102, 116]⟩
def tagR : ByteArray := ⟨#[114, 105, 103, 104, 116]⟩
def tagOf (b : Int) : ByteArray := if b = 0 then tagL else tagR
def midAt (key : Int) (s : List Se) (t : Tn) (j : Nat) : Se := againC key (s.getD (t.l.getD j default).toNat default) (t.rl.getD j default)
def outAt (key : Int) (s : List Se) (t : Tn) (j : Nat) : Se := againC key (midAt key s t j) (t.rr.getD j default)
def mixTo (key : Int) (s : List Se) (t : Tn) (k : Nat) : Mx :=
  ⟨s, (List.range k).map (midAt key s t) ++ List.replicate (s.length - k) default, layTo s.length default t.r (outAt key s t) k, (List.range k).map (fun j => comN tagL (ogL t j)), (List.range k).map (fun j => comN tagR (ogR t j))⟩
def zMx : Mx := ⟨[], [], [], [], []⟩
def mixE (key : Int) (s : List Se) (t : Tn) : Int := if vld key then (if s.length ≤ 64 then (if s.all okS then (if rightB t s.length then 0 else 140) else 100) else 2) else 90
def mixC (key : Int) (s : List Se) (t : Tn) : Mx := if mixE key s t = 0 then mixTo key s t s.length else zMx
def ogAt (t : Tn) (j : Nat) (b : Int) : Og := if b = 0 then ogL t j else ogR t j
def openE (t : Tn) (bits : List Int) : Int := if rightB t bits.length then (if bits.all bitB then 0 else 1) else 140
def openTo (t : Tn) (bits : List Int) (k : Nat) : List Og := (List.range k).map fun j => ogAt t j (bits.getD j default)
def openC (t : Tn) (bits : List Int) : List Og := if openE t bits = 0 then openTo t bits bits.length else []
def traceE (t : Tn) : Int := if rightB t t.l.length then 0 else 140
def traceC (t : Tn) : List Int := if rightB t t.l.length then goTo t.l t.r else []
/-- an opening fits -/
def fitsB (key : Int) (m : Mx) (j : Nat) (b : Int) (o : Og) : Bool :=
  (decide (0 ≤ o.a) && decide (o.a < m.i.length)) && (decide ((if b = 0 then m.l else m.r).getD j default = comN (tagOf b) o) &&
    (if b = 0 then eqSe (againC key (m.i.getD o.a.toNat default) o.r) (m.m.getD j default) else eqSe (againC key (m.m.getD j default) o.r) (m.o.getD o.a.toNat default)))
def longB (m : Mx) (bits : List Int) (l : List Og) : Bool :=
  decide (m.m.length = m.i.length) && (decide (m.o.length = m.i.length) && (decide (m.l.length = m.i.length) && (decide (m.r.length = m.i.length) && (decide (bits.length = m.i.length) && decide (l.length = m.i.length)))))
def formB (key : Int) (m : Mx) (bits : List Int) : Bool := vld key && (decide (m.i.length ≤ 64) && (m.i.all okS && (m.m.all okS && (m.o.all okS && bits.all bitB))))
def placesTo (bits : List Int) (l : List Og) (k : Nat) : List (Int × Int) := (List.range k).map fun j => (bits.getD j default, (l.getD j default).a)
def checkB (key : Int) (m : Mx) (bits : List Int) (l : List Og) : Bool :=
  longB m bits l && (formB key m bits && ((List.range m.i.length).all (fun j => fitsB key m j (bits.getD j default) (l.getD j default)) && decide (placesTo bits l m.i.length).Nodup))
/-- the left and the right places -/
def leftAt (bits : List Int) (l o : List Og) (j : Nat) : Int := if bits.getD j default = 0 then (l.getD j default).a else (o.getD j default).a
def rightAt (bits : List Int) (l o : List Og) (j : Nat) : Int := if bits.getD j default = 0 then (o.getD j default).a else (l.getD j default).a
def leftTo (bits : List Int) (l o : List Og) (k : Nat) : List Int := (List.range k).map (leftAt bits l o)
def rightTo (bits : List Int) (l o : List Og) (k : Nat) : List Int := (List.range k).map (rightAt bits l o)
def wholeB (bits : List Int) (l o : List Og) : Bool :=
  (decide (bits.length ≤ 64) && (decide (l.length = bits.length) && (decide (o.length = bits.length) && bits.all bitB))) && (permB (leftTo bits l o bits.length) && permB (rightTo bits l o bits.length))
def wholeC (bits : List Int) (l o : List Og) : List Int := if wholeB bits l o then goTo (leftTo bits l o bits.length) (rightTo bits l o bits.length) else []
theorem map_range_snoc {α : Type} (f : Nat → α) (k : Nat) : (List.range (k + 1)).map f = (List.range k).map f ++ [f k] := by rw [List.range_succ, List.map_append]; rfl
theorem map_range_get {α : Type} [Inhabited α] (f : Nat → α) {k j : Nat} (h : j < k) : ((List.range k).map f).getD j default = f j := by
  rw [List.getD_eq_getElem?_getD, List.getElem?_map, List.getElem?_range h]; rfl
end Go.Proofs.YthboebhghaabnaaGreatDoor

set_option linter.unusedSimpArgs false
set_option linter.unusedSectionVars false
set_option linter.unusedVariables false
namespace Go.Proofs.YthboebhghaabnaaGreatDoor
open Go.RowKit Fk Sha
/-! New slices of zeros. -/
theorem one_slice {P : Program} (w : World) (t e : TypeId) (cs : Array Value) (ie : TypeInfo) (z : Value) (hu : P.underlying t = some (.slice e)) (hie : P.info? e = some ie) (hz : ie.zero = some z) (hs : ie.size = cs.size) (h0 : 0 < cs.size) (h1 : cs.size ≤ 1000) :
    (Instr.buildSlice t 1 #[(0, .agg cs)]).run P w = .ok (.slice (some ⟨w.heap.size, 0, none⟩) 1 1) (w.alloc (.cells cs e)) := by
  refine run_buildSlice w t e 1 _ cs ie z hu hie hz (by rw [hs]; omega) (by rw [hs]; omega) ?_
  have hf := Great.fill_whole (s := cs.size) h0 [.agg cs] ((Array.range (1 * ie.size)).map (z.cells[· % z.cells.size]!)) (fun v hv => by rw [List.mem_singleton] at hv; subst hv; rfl) (by simp [hs])
  rw [hs] at hf ⊢
  refine hf.trans ?_
  congr 1
  simp [Value.cells]
theorem infoInt : (Tryz.prog.info? 3).map (fun i => (i.zero, i.size, i.bytes)) = some (some (.int .i64 0), 1, 8) := by kernel_rfl
/-- a slice literal of one element, at its step -/
theorem wpList_one {P : Program} {ops : Array Oper} {rest : List Oper} {o : Oper} {a : Act} {w : World} {Q : Exit → Act → World → Prop} (hg : o.guard = none) (t e : TypeId) (x : Operand) (ho : o.op = .buildSlice t 1 #[(0, x)]) (cs : Array Value) (hx : a.eval x = .agg cs)
    (hr : (Instr.buildSlice t 1 #[(0, .agg cs)]).run P w = .ok (.slice (some ⟨w.heap.size, 0, none⟩) 1 1) (w.alloc (.cells cs e)))
    (h : wpList P ops Q rest (a.put o.dst (.slice (some ⟨w.heap.size, 0, none⟩) 1 1)) (w.alloc (.cells cs e))) : wpList P ops Q (o :: rest) a w :=
  wpList_plain hg fun _ hK => by
    unfold Oper.wp execOp
    simp only [ho, Sem.run_bind, List.map_toArray, List.map_cons, List.map_nil, hx, hr, Result.andThen_ok]
    exact hK _ _ h
section
variable {α : Type} [Inhabited α] {m : Nat} {enc enc' : α → List Value} {w : World} {B0 : Nat} {v : Value} {l : List α}
theorem slG_congr (h : SlG m enc' w B0 v l) (he : ∀ x ∈ l, enc' x = enc x) : SlG m enc w B0 v l := by
  obtain ⟨hl, A, c, rfl, hE⟩ := h
  refine ⟨hl, A, c, rfl, fun hp => ?_⟩
  obtain ⟨b, off, rfl, hb, hE⟩ := hE hp
  exact ⟨b, off, rfl, hb, fun i hi j hj => by rw [hE i hi j hj, he _ (mem_getD hi)]⟩
theorem flat_congr : ∀ (l : List α), (∀ x ∈ l, enc' x = enc x) → l.flatMap enc' = l.flatMap enc
  | [], _ => rfl
  | a :: l, h => by rw [List.flatMap_cons, List.flatMap_cons, h a (by simp), flat_congr l (fun x hx => h x (by simp [hx]))]
/-- cells of members only -/
def encM (m : Nat) (enc : α → List Value) (x : α) : List Value := if (enc x).length = m then enc x else List.replicate m undef
theorem encM_length (m : Nat) (enc : α → List Value) (x : α) : (encM m enc x).length = m := by
  unfold encM; split
  · assumption
  · simp
theorem own_slM {base n : Nat} {e : TypeId} (h : w.ownsRow base e m v n (l.flatMap enc)) (hm : ∀ x ∈ l, (enc x).length = m) (hn : n = l.length) (hl : l.length ≤ 9223372036854775807) : SlG m enc w w.heap.size v l := by
  have he : ∀ x ∈ l, encM m enc x = enc x := fun x hx => if_pos (hm x hx)
  rw [← flat_congr l he] at h
  exact slG_congr (own_slG h (encM_length m enc) hn hl) he
theorem row_slM {g c : Nat} {t : TypeId} (h : Row w g t (l.flatMap enc)) (hm : ∀ x ∈ l, (enc x).length = m) (hl : l.length ≤ 9223372036854775807) (hB : g < B0) : SlG m enc w B0 (.slice (some ⟨g, 0, none⟩) l.length c) l := by
  have he : ∀ x ∈ l, encM m enc x = enc x := fun x hx => if_pos (hm x hx)
  rw [← flat_congr l he] at h
  exact slG_congr (h.sl (encM_length m enc) hl hB) he
end
theorem made_int (n : Nat) : madeCells (Value.int .i64 0).cells n = (List.replicate n (Value.int .i64 0)).toArray := by
  apply Array.ext'
  exact toList_madeCells_one (Value.int .i64 0) n
theorem make_ints (n : Nat) (hn : n ≤ 1000000) (w : World) : (Instr.makeSlice 23 (.int .i64 (n : Int)) (.int .i64 (n : Int))).run Tryz.prog w = .ok (.slice (some ⟨w.heap.size, 0, none⟩) n n) (w.alloc (.cells (List.replicate n (Value.int .i64 0)).toArray 3)) := by
  obtain ⟨i0, hi, hz0, hz1, hz2⟩ := info_parts infoInt
  have hr := run_make (P := Tryz.prog) w 23 3 i0 (.int .i64 0) Tryz.underlying23 hi hz0 .i64 .i64 (n : Int) (n : Int) (by omega) (by omega) (by rw [hz2]; omega) (by omega)
  simp only [Int.toNat_natCast, hz1, Nat.mul_one] at hr
  rw [hr, made_int n]
theorem flat_ints (l : List Int) : l.flatMap encI = l.map (Value.int .i64) := by
  induction l with
  | nil => rfl
  | cons a r ih => rw [List.flatMap_cons, ih]; rfl
theorem row_ints {w : World} {g c : Nat} {t : TypeId} {l : List Int} (h : Row w g t (l.map (Value.int .i64))) (hl : l.length ≤ 9223372036854775807) {B0 : Nat} (hB : g < B0) : SlI w B0 (.slice (some ⟨g, 0, none⟩) l.length c) l := by
  rw [← flat_ints] at h
  exact h.sl (fun _ => rfl) hl hB
theorem rightB_facts {t : Tn} {n : Nat} (h : rightB t n = true) : t.l.length = n ∧ t.r.length = n ∧ t.rl.length = n ∧ t.rr.length = n ∧ t.s.length = n ∧ n ≤ 64 ∧ permB t.l = true ∧ permB t.r = true := by
  unfold rightB at h
  simp only [Bool.and_eq_true, decide_eq_true_iff] at h
  obtain ⟨⟨h1, h2, h3, h4, h5⟩, h6, h7, h8⟩ := h
  exact ⟨h1, h2, h3, h4, h5, h6, h7, h8⟩
end Go.Proofs.YthboebhghaabnaaGreatDoor
