import Derived.Test.YtlbnbginippjfaaEl4
import Derived.Test.YtlbnbginippjfaaOrd
set_option linter.unusedSimpArgs false
namespace Go.Proofs.Ytlbnbginippjfaa
open Go.RowKit Go.Shelf Fk

def _root_.Fk.Se.set (s : Se) (k : Nat) (c : Ci) : Se := ⟨if k = 0 then c else s.x, if k = 1 then c else s.y, if k = 2 then c else s.z⟩
theorem mapTo_set (f : Nat → Ci → Ci) (s : Se) {k : Nat} (h : k < 3) : (s.mapTo f k).set k (f k (s.get k)) = s.mapTo f (k + 1) := by
  rcases (show k = 0 ∨ k = 1 ∨ k = 2 by omega) with rfl | rfl | rfl <;> rfl
theorem mapTo_get (f : Nat → Ci → Ci) (s : Se) {k : Nat} (h : k < 3) : (s.mapTo f k).get k = s.get k := by
  rcases (show k = 0 ∨ k = 1 ∨ k = 2 by omega) with rfl | rfl | rfl <;> rfl
theorem set_cells (s : Se) {k : Nat} (c : Ci) (h : k < 3) : (s.set k c).cells = (s.cells.set (k * 2) (.int .i64 c.a)).set (k * 2 + 1) (.int .i64 c.b) := by
  rcases (show k = 0 ∨ k = 1 ∨ k = 2 by omega) with rfl | rfl | rfl <;> rfl
theorem set_cells_b (s : Se) {k : Nat} (c : Ci) (h : k < 3) (ha : c.a = (s.get k).a) : (s.set k c).cells = s.cells.set (k * 2 + 1) (.int .i64 c.b) := by
  rcases (show k = 0 ∨ k = 1 ∨ k = 2 by omega) with rfl | rfl | rfl
  · have : c.a = s.x.a := ha
    simp [Se.set, Se.cells, this]
  · have : c.a = s.y.a := ha
    simp [Se.set, Se.cells, this]
  · have : c.a = s.z.a := ha
    simp [Se.set, Se.cells, this]
theorem RowT_get {W : World} {b : Nat} {t : TypeId} {r : Tr} (h : Row W b t r.cells) {k : Nat} (hk : k < 3) : W.cell? ⟨b, k, none⟩ = some (.int .i64 (r.get k)) := by
  rw [Row.cell h]
  rcases (show k = 0 ∨ k = 1 ∨ k = 2 by omega) with rfl | rfl | rfl <;> rfl
theorem powC_bd (a n : Int) : 0 ≤ powC a n ∧ powC a n < 2147483579 := by
  unfold powC; split
  · exact ⟨pwr_nonneg _ _, pwr_lt _ _⟩
  · omega
/-- what is returned when a function has no results -/
def ranC (bs : Nat) (s : Se) (W : World) (e : Ending) (W' : World) : Prop := (∃ v, e = .returned v) ∧ RowS W' bs s ∧ W.grownBy W' (some bs)

/-- what a region that makes new keys holds: W's blocks are as they were, and so the loaded cells -/
def SMo (W : World) (p1 p2 p3 p4 : Addr) (v1 v2 v3 v4 : Value) (w' : World) : Prop := Below W.heap.size W w' ∧ w'.cell? p1 = some v1 ∧ w'.cell? p2 = some v2 ∧ w'.cell? p3 = some v3 ∧ w'.cell? p4 = some v4
theorem SMo.below {W w' w2 : World} {p1 p2 p3 p4 : Addr} {v1 v2 v3 v4 : Value} (h1 : p1.block < W.heap.size) (h2 : p2.block < W.heap.size) (h3 : p3.block < W.heap.size) (h4 : p4.block < W.heap.size)
    (h : SMo W p1 p2 p3 p4 v1 v2 v3 v4 w') (hb : Below w'.heap.size w' w2) : SMo W p1 p2 p3 p4 v1 v2 v3 v4 w2 := by
  obtain ⟨a, b, c, d, e⟩ := h
  have hz := a.size
  exact ⟨a.trans (hb.mono hz), (hb.cell (by omega)).trans b, (hb.cell (by omega)).trans c, (hb.cell (by omega)).trans d, (hb.cell (by omega)).trans e⟩
theorem below_alloc (w : World) (o : Obj) : Below w.heap.size w (w.alloc o) := (Below.refl _ _).alloc (Nat.le_refl _) o

theorem grown_set {W w' : World} {p : Addr} {u : Value} {b : Nat} (h : W.grownBy w' (some b)) (hp : p.block = b) : W.grownBy (w'.setCell p u) (some b) :=
  ⟨h.os, h.tape, h.output, by simpa [World.setCell] using h.size, fun k hk hn => (Below.heap_setCell w' p u k (fun e => hn (by rw [e, hp]))).trans (h.block k hk hn)⟩
theorem grown_below {W w' : World} (h : Below W.heap.size W w') (row : Option Nat) : W.grownBy w' row := ⟨h.os, h.tape, h.output, h.size, fun k hk _ => h.block k hk⟩

set_option maxHeartbeats 2000000 in
theorem more_in (k : Nat) (hk : k < 3) (s : Se) (r : Tr) (key : Int) (bs br bk : Nat) (W : World) (h : RowS W bs s) (hr : Row W br 29 r.cells) (hkey : Boxed W bk 3 (.int .i64 key))
    (hca : 0 ≤ (s.get k).a ∧ (s.get k).a < 2147483579) (hcb : 0 ≤ (s.get k).b ∧ (s.get k).b < 2147483579) :
    Calls Try.prog 60 #[.int .i64 (k : Int), .pointer (some ⟨bs, k * 2, none⟩), .pointer (some ⟨br, 0, none⟩), .pointer (some ⟨bk, 0, none⟩)] W (ranC bs (s.set k (moreC key r k (s.get k))) W) := by
  have c1 := h.ca hk
  have c2 := h.cb hk
  have c3 := RowT_get hr hk
  have c4 := hkey.cell
  have f1 := Row.frozen h (k * 2)
  have f2 := Row.frozen h (k * 2 + 1)
  have hs := set_cells s (moreC key r k (s.get k)) hk
  have hlb := Row.lt h
  have hlr := Row.lt hr
  have hlk := Boxed.lt hkey
  have hkeep := fun (w' : World) (hw : Below W.heap.size W w') => (Row.keep h (hw.block bs hlb) : RowS w' bs s)
  have hmo : moreC key r k (s.get k) = ⟨(s.get k).a * powC 4 (r.get k) % 2147483579, (s.get k).b * powC key (r.get k) % 2147483579⟩ := rfl
  unfold moreC at hs
  obtain ⟨c, hc⟩ : ∃ c, s.get k = c := ⟨_, rfl⟩
  obtain ⟨ri, hri⟩ : ∃ ri, r.get k = ri := ⟨_, rfl⟩
  rw [hc] at c1 c2 hca hcb hs hmo
  rw [hri] at c3 hs hmo
  have p1 := powC_bd 4 ri
  have p2 := powC_bd key ri
  have q1 := fun w => epow_any 4 ri w
  have q2 := fun w => epow_any key ri w
  generalize powC 4 ri = x1 at *
  generalize powC key ri = x2 at *
  have HS := Lib.hid hs
  have HM := Lib.hid hmo
  have Q1 := Lib.hid q1
  have Q2 := Lib.hid q2
  have HK := Lib.hid hkeep
  have hS0 : SMo W ⟨bs, k * 2, none⟩ ⟨bs, k * 2 + 1, none⟩ ⟨br, k, none⟩ ⟨bk, 0, none⟩ (.int .i64 c.a) (.int .i64 c.b) (.int .i64 ri) (.int .i64 key) W.drew := ⟨(Below.refl _ _).drew, c1, c2, c3, c4⟩
  have s1 : (0 : Int) ≤ k := by omega
  have s2 : (k : Int) < 3 := by omega
  clear hs hmo q1 q2 hri h hr hkey hkeep
  go_enter Try.func60, Try.ntmps60
  refine wp_region_ord 23 [(0, 1), (1, 0), (1, 2), (1, 3), (1, 4), (1, 5), (1, 6), (1, 7), (1, 8), (1, 12), (1, 13), (1, 14), (1, 15), (1, 16), (1, 17), (1, 18), (1, 19), (2, 9), (2, 10), (2, 11), (2, 20), (2, 21), (2, 22)]
    (SMo W ⟨bs, k * 2, none⟩ ⟨bs, k * 2 + 1, none⟩ ⟨br, k, none⟩ ⟨bk, 0, none⟩ (.int .i64 c.a) (.int .i64 c.b) (.int .i64 ri) (.int .i64 key)) (by kernel_rfl) (by kernel_rfl) (fun _ _ d _ _ h => by cases d <;> exact h) hS0 ?_
  refine wpOrd_any (v := ?_) rfl (by rfl) (fun w => ?_) ?_
  rotate_left 1
  · go_simp
    with_reducible rfl
  simp only [Act.put, List.setIfInBounds_toArray, List.set_cons_zero, List.set_cons_succ]
  iterate 16
    refine wpOrd_take (v := ?_) rfl (by rfl) (fun w hSw => ?_) ?_
    rotate_left 1
    · obtain ⟨hSB, hS1, hS2, hS3, hS4⟩ := hSw
      go_simp
      with_reducible rfl
    simp only [Act.put, List.setIfInBounds_toArray, List.set_cons_zero, List.set_cons_succ]
  refine wpOrd_step rfl (fun K hK => ⟨by rfl, ?_⟩)
  go_simp
  go_at_call 47
  refine (Q1.out _).mono ?_
  rintro e w1 ⟨rfl, hb⟩
  refine hK _ _ (hS0.below hlb hlb hlr hlk hb) ?_
  replace hS0 := hS0.below hlb hlb hlr hlk hb
  clear hK K hb
  refine wpOrd_step rfl (fun K hK => ⟨by rfl, ?_⟩)
  go_simp
  refine hK _ _ (hS0.below hlb hlb hlr hlk (below_alloc _ _)) ?_
  replace hS0 := hS0.below hlb hlb hlr hlk (below_alloc _ (Obj.cells #[Value.int IntKind.i64 c.a, Value.int IntKind.i64 x1] 3))
  clear hK K
  refine wpOrd_step rfl (fun K hK => ⟨by rfl, ?_⟩)
  go_simp
  go_at_call 46
  refine (times_two c.a x1 hca p1 w1.heap.size _ (by simp) (by simp)).mono ?_
  rintro e w2 ⟨rfl, rfl⟩
  refine hK _ _ hS0 ?_
  clear hK K
  generalize w1.alloc (Obj.cells #[Value.int IntKind.i64 c.a, Value.int IntKind.i64 x1] 3) = w3 at *
  refine wpOrd_step rfl (fun K hK => ⟨by rfl, ?_⟩)
  go_simp
  go_at_call 47
  refine (Q2.out _).mono ?_
  rintro e w4 ⟨rfl, hb⟩
  refine hK _ _ (hS0.below hlb hlb hlr hlk hb) ?_
  replace hS0 := hS0.below hlb hlb hlr hlk hb
  clear hK K hb
  refine wpOrd_step rfl (fun K hK => ⟨by rfl, ?_⟩)
  go_simp
  refine hK _ _ (hS0.below hlb hlb hlr hlk (below_alloc _ _)) ?_
  replace hS0 := hS0.below hlb hlb hlr hlk (below_alloc _ (Obj.cells #[Value.int IntKind.i64 c.b, Value.int IntKind.i64 x2] 3))
  clear hK K
  refine wpOrd_step rfl (fun K hK => ⟨by rfl, ?_⟩)
  go_simp
  go_at_call 46
  refine (times_two c.b x2 hcb p2 w4.heap.size _ (by simp) (by simp)).mono ?_
  rintro e w5 ⟨rfl, rfl⟩
  refine hK _ _ hS0 ?_
  clear hK K
  generalize w4.alloc (Obj.cells #[Value.int IntKind.i64 c.b, Value.int IntKind.i64 x2] 3) = w6 at *
  refine wpOrd_nil ?_
  simp only [List.drop_succ_cons, List.drop_zero]
  have hBW := hS0.1
  have hRow := HK.out _ hBW
  have g1 := Row.frozen hRow (k * 2)
  have g2 : (w6.setCell ⟨bs, k * 2, none⟩ (.int .i64 (c.a * x1 % 2147483579))).frozen? ⟨bs, k * 2 + 1, none⟩ = false := Row.frozen (Row.store hRow (k * 2) _) _
  have g3 : w6.cell? ⟨bs, k * 2, none⟩ = some (.int .i64 c.a) := hS0.2.1
  have g4 : (w6.setCell ⟨bs, k * 2, none⟩ (.int .i64 (c.a * x1 % 2147483579))).cell? ⟨bs, k * 2 + 1, none⟩ = some (.int .i64 c.b) := (World.cell?_setCell_other _ _ _ _ (fun e => by injection e; omega)).trans hS0.2.2.1
  have HRow := Lib.hid hRow
  clear hRow hS0 c1 c2 c3 c4 f1 f2
  go_wp2_with fail
  go_end0
  refine ⟨⟨_, rfl⟩, ?_, ?_⟩
  · show Row _ _ _ _
    rw [HM.out, HS.out]
    exact Row.store (Row.store HRow.out (k * 2) _) (k * 2 + 1) _
  · exact grown_set (grown_set (grown_below hBW _) rfl) rfl
end Go.Proofs.Ytlbnbginippjfaa
