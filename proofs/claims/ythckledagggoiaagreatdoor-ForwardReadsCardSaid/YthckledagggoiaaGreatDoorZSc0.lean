import Derived.Test.YthckledagggoiaaGreatDoorZUs3
set_option linter.unusedSimpArgs false
set_option linter.unusedVariables false
namespace Go.Proofs.YthckledagggoiaaGreatDoor
open Go.RowKit Go.Shelf Fk Sha
/-! The keys of lines whose offices have secrets: in plain words. -/
def ownO (o0 o1 o2 o3 : Int) (i : Int) : Int := if i = 0 then o0 else if i = 1 then o1 else if i = 2 then o2 else o3
def offOK (o : Int) : Bool := decide (0 ≤ o) && decide (o ≤ 3)
def keyO (o0 o1 o2 o3 : Int) (ol : List Int) : Int := joinC (ol.map fun o => pubC (ownO o0 o1 o2 o3 o))
def sec4 (o0 o1 o2 o3 : Int) : Bool := secB o0 && (secB o1 && (secB o2 && secB o3))
def offsL (l : List Lx) : Bool := l.all fun x => x.ol.all offOK
theorem sec4_at {o0 o1 o2 o3 : Int} (h : sec4 o0 o1 o2 o3 = true) (i : Int) : secB (ownO o0 o1 o2 o3 i) = true := by
  unfold sec4 at h
  simp only [Bool.and_eq_true] at h
  unfold ownO
  split
  · exact h.1
  · split
    · exact h.2.1
    · split
      · exact h.2.2.1
      · exact h.2.2.2
def joinF (o : Option Int) (k : Int) : Option Int := match o with
  | some c => if vld c && vld k then some (c * k % 2147483579) else none
  | none => none
theorem joinF_mul {a b : Int} (ha : vld a = true) (hb : vld b = true) : joinF (some a) b = some (mulC a b) := by
  show (if vld a && vld b then some (a * b % 2147483579) else none) = some (mulC a b)
  unfold mulC
  rw [ha, hb]
  simp only [Bool.and_self, if_true]
theorem joinF_pow (s n : Int) : joinF (some (powC 4 s)) (powC 4 n) = some (powC 4 (s + n)) := by
  rw [joinF_mul (vld_powC vld_4 s) (vld_powC vld_4 n), pow_add' vld_4]
theorem fold_pow4 (L : List Int) (s : Int) : (L.map (powC 4)).foldl joinF (some (powC 4 s)) = some (powC 4 (s + L.sum)) := by
  induction L generalizing s with
  | nil => rw [List.map_nil, List.foldl_nil, List.sum_nil, Int.add_zero]
  | cons n L ih => rw [List.map_cons, List.foldl_cons, joinF_pow, ih, List.sum_cons, Int.add_assoc]
theorem joinTo_is (l : List Int) : joinTo l = l.foldl joinF (some 1) := rfl
theorem join_pow4 (L : List Int) : joinTo (L.map (powC 4)) = some (powC 4 L.sum) := by
  have h := fold_pow4 L 0
  rw [pow_0 vld_4, Int.zero_add] at h
  rw [joinTo_is]
  exact h
theorem pubC_pow (n : Int) (h : secB n = true) : pubC n = powC 4 n := by
  unfold pubC
  rw [h, if_pos rfl]
theorem key_pow {o0 o1 o2 o3 : Int} (h : sec4 o0 o1 o2 o3 = true) (ol : List Int) : joinTo (ol.map fun o => pubC (ownO o0 o1 o2 o3 o)) = some (powC 4 (ol.map (ownO o0 o1 o2 o3)).sum) := by
  have e : (ol.map fun o => pubC (ownO o0 o1 o2 o3 o)) = (ol.map (ownO o0 o1 o2 o3)).map (powC 4) := by
    rw [List.map_map]
    apply List.map_congr_left
    intro o _
    rw [Function.comp_apply, pubC_pow _ (sec4_at h o)]
  rw [e, join_pow4]
theorem keyO_pow {o0 o1 o2 o3 : Int} (h : sec4 o0 o1 o2 o3 = true) (ol : List Int) : keyO o0 o1 o2 o3 ol = powC 4 (ol.map (ownO o0 o1 o2 o3)).sum := by
  unfold keyO joinC
  rw [key_pow h, Option.getD_some]
theorem joinE_own {o0 o1 o2 o3 : Int} (h : sec4 o0 o1 o2 o3 = true) (ol : List Int) : joinE (ol.map fun o => pubC (ownO o0 o1 o2 o3 o)) = 0 := by
  unfold joinE
  rw [key_pow h, Option.isSome_some, if_pos rfl]
structure CS (w W : World) (n : Int) (v : Value) (o0 o1 o2 o3 p0 p1 p2 p3 : Int) : Prop where
  bel : Below w.heap.size w W
  r0 : Row W w.heap.size 24 [.int .i64 n, v]
  r1 : Row W (w.heap.size + 1) 58 [.int .i64 o0, .int .i64 o1, .int .i64 o2, .int .i64 o3]
  r2 : Row W (w.heap.size + 1 + 1) 58 [.int .i64 p0, .int .i64 p1, .int .i64 p2, .int .i64 p3]
theorem CS.below {w W W' : World} {n : Int} {v : Value} {o0 o1 o2 o3 p0 p1 p2 p3 : Int} (h : CS w W n v o0 o1 o2 o3 p0 p1 p2 p3) (hb : Below W.heap.size W W') : CS w W' n v o0 o1 o2 o3 p0 p1 p2 p3 :=
  ⟨h.bel.trans (hb.mono h.bel.size), h.r0.below hb h.r0.lt, h.r1.below hb h.r1.lt, h.r2.below hb h.r2.lt⟩
theorem CS.set {w W : World} {n : Int} {v : Value} {o0 o1 o2 o3 p0 p1 p2 p3 : Int} (h : CS w W n v o0 o1 o2 o3 p0 p1 p2 p3) (x : Int) :
    CS w (W.setCell ⟨w.heap.size + 1 + 1, 0, none⟩ (.int .i64 x)) n v o0 o1 o2 o3 x p1 p2 p3 ∧ CS w (W.setCell ⟨w.heap.size + 1 + 1, 1, none⟩ (.int .i64 x)) n v o0 o1 o2 o3 p0 x p2 p3 ∧
    CS w (W.setCell ⟨w.heap.size + 1 + 1, 2, none⟩ (.int .i64 x)) n v o0 o1 o2 o3 p0 p1 x p3 ∧ CS w (W.setCell ⟨w.heap.size + 1 + 1, 3, none⟩ (.int .i64 x)) n v o0 o1 o2 o3 p0 p1 p2 x := by
  have k : ∀ i : Nat, Below w.heap.size w (W.setCell ⟨w.heap.size + 1 + 1, i, none⟩ (.int .i64 x)) ∧ Row (W.setCell ⟨w.heap.size + 1 + 1, i, none⟩ (.int .i64 x)) w.heap.size 24 [.int .i64 n, v] ∧ Row (W.setCell ⟨w.heap.size + 1 + 1, i, none⟩ (.int .i64 x)) (w.heap.size + 1) 58 [.int .i64 o0, .int .i64 o1, .int .i64 o2, .int .i64 o3] := fun i =>
    ⟨h.bel.setCell (p := ⟨w.heap.size + 1 + 1, i, none⟩) (by simp only []; omega) _, h.r0.other (by simp only []; omega) _, h.r1.other (by simp only []; omega) _⟩
  exact ⟨⟨(k 0).1, (k 0).2.1, (k 0).2.2, h.r2.store 0 _⟩, ⟨(k 1).1, (k 1).2.1, (k 1).2.2, h.r2.store 1 _⟩, ⟨(k 2).1, (k 2).2.1, (k 2).2.2, h.r2.store 2 _⟩, ⟨(k 3).1, (k 3).2.1, (k 3).2.2, h.r2.store 3 _⟩⟩
theorem CS.tt {w W : World} {n : Int} {v : Value} {o0 o1 o2 o3 p0 p1 p2 p3 : Int} (h : CS w W n v o0 o1 o2 o3 p0 p1 p2 p3) : W.cell? ⟨w.heap.size, 0, none⟩ = some (.int .i64 n) ∧ W.cell? ⟨w.heap.size, 1, none⟩ = some v := ⟨h.r0.cell 0, h.r0.cell 1⟩
theorem CS.own {w W : World} {n : Int} {v : Value} {o0 o1 o2 o3 p0 p1 p2 p3 : Int} (h : CS w W n v o0 o1 o2 o3 p0 p1 p2 p3) :
    (W.cell? ⟨w.heap.size + 1, 0, none⟩ = some (.int .i64 o0) ∧ W.cell? ⟨w.heap.size + 1, 1, none⟩ = some (.int .i64 o1) ∧ W.cell? ⟨w.heap.size + 1, 2, none⟩ = some (.int .i64 o2) ∧ W.cell? ⟨w.heap.size + 1, 3, none⟩ = some (.int .i64 o3)) ∧
    (W.cell? ⟨w.heap.size + 1 + 1, 0, none⟩ = some (.int .i64 p0) ∧ W.cell? ⟨w.heap.size + 1 + 1, 1, none⟩ = some (.int .i64 p1) ∧ W.cell? ⟨w.heap.size + 1 + 1, 2, none⟩ = some (.int .i64 p2) ∧ W.cell? ⟨w.heap.size + 1 + 1, 3, none⟩ = some (.int .i64 p3)) ∧
    W.frozen? ⟨w.heap.size + 1 + 1, 0, none⟩ = false ∧ W.frozen? ⟨w.heap.size + 1 + 1, 1, none⟩ = false ∧ W.frozen? ⟨w.heap.size + 1 + 1, 2, none⟩ = false ∧ W.frozen? ⟨w.heap.size + 1 + 1, 3, none⟩ = false :=
  ⟨⟨h.r1.cell 0, h.r1.cell 1, h.r1.cell 2, h.r1.cell 3⟩, ⟨h.r2.cell 0, h.r2.cell 1, h.r2.cell 2, h.r2.cell 3⟩, h.r2.frozen 0, h.r2.frozen 1, h.r2.frozen 2, h.r2.frozen 3⟩
theorem CS.start (w : World) (n : Int) (v : Value) (o0 o1 o2 o3 : Int) : CS w (((w.alloc (.cells #[.int .i64 n, v] 24)).alloc (.cells #[.int .i64 o0, .int .i64 o1, .int .i64 o2, .int .i64 o3] 58)).alloc (.cells #[.int .i64 0, .int .i64 0, .int .i64 0, .int .i64 0] 58)) n v o0 o1 o2 o3 0 0 0 0 := by
  have a0 := Row.new w 24 [.int .i64 n, v]
  have B0 := below_alloc' w (.cells #[.int .i64 n, v] 24)
  have s0 : (w.alloc (.cells #[.int .i64 n, v] 24)).heap.size = w.heap.size + 1 := by simp
  generalize w.alloc (.cells #[.int .i64 n, v] 24) = W0 at *
  have a1 := Row.new W0 58 [.int .i64 o0, .int .i64 o1, .int .i64 o2, .int .i64 o3]
  have a0 := a0.alloc (.cells #[.int .i64 o0, .int .i64 o1, .int .i64 o2, .int .i64 o3] 58)
  have B1 := B0.alloc B0.size (.cells #[.int .i64 o0, .int .i64 o1, .int .i64 o2, .int .i64 o3] 58)
  have s1 : (W0.alloc (.cells #[.int .i64 o0, .int .i64 o1, .int .i64 o2, .int .i64 o3] 58)).heap.size = w.heap.size + 1 + 1 := by simp [s0]
  rw [s0] at a1
  generalize W0.alloc (.cells #[.int .i64 o0, .int .i64 o1, .int .i64 o2, .int .i64 o3] 58) = W1 at *
  have a2 := Row.new W1 58 [.int .i64 0, .int .i64 0, .int .i64 0, .int .i64 0]
  rw [s1] at a2
  exact ⟨B1.alloc B1.size _, a0.alloc _, a1.alloc _, a2⟩
end Go.Proofs.YthckledagggoiaaGreatDoor
