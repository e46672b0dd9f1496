import Derived.Test.YthckledagggoiaaGreatDoorZFt8
import Derived.Defers
import Derived.Recover
import Derived.Deep.Cut
set_option linter.unusedSimpArgs false
set_option linter.unusedVariables false
namespace Go.Proofs.YthckledagggoiaaGreatDoor
open Go.RowKit Go.Shelf Fk Sha
/-! forward.Next: what is deferred. -/
structure Fw where
  k : Int
  p : Int
  o : Int
  line : Int
  key : Int
  a : Int
  b : Int
  ds : List B
def Fw.cells (x : Fw) : List Value := [.int .i64 x.k, .int .i64 x.p, .int .i64 x.o] ++ retC x.line x.key x.a x.b (x.ds.map bv)
def zeroD : List B := List.replicate 32 0
def zeroF : Fw := ⟨0, 0, 0, 0, 0, 0, 0, zeroD⟩
theorem Fw.len {x : Fw} (h : x.ds.length = 32) : x.cells.length = 39 := by
  unfold Fw.cells; rw [List.length_append, retC_len (by rw [List.length_map]; exact h)]; rfl
theorem Fw.one (x : Fw) : ∀ v ∈ x.cells, v.oneCell' = true := by
  intro v hv
  unfold Fw.cells at hv
  rw [List.mem_append] at hv
  rcases hv with hv | hv
  · simp at hv
    rcases hv with rfl | rfl | rfl <;> rfl
  · exact one_cells (one_bv x.ds) _ _ _ _ v hv
theorem next1_idle (g g2 : Nat) (w : World) :
    CallsD Tryz.prog 36 #[.pointer (some ⟨g, 0, none⟩), .pointer (some ⟨g2, 0, none⟩)] .returning w fun e u' w' => e = .returned (.tuple #[]) ∧ u' = .returning ∧ w' = w := by
  refine callsD_of_wpS Tryz.func36 rfl fun c₀ cs hu => ?_
  apply wpS_seq
  apply wpS_region
  simp [wpOpsS, go_sem, recoverD, hu, Tryz.ntmps36, Exit.thenS]
  refine wpS_of_wp ?_
  simp only [List.size_toArray, List.length_cons, List.length_nil, Nat.reduceAdd, Nat.reduceSub, Array.replicate_succ, Array.replicate_zero, List.push_toArray, List.append_toArray, List.nil_append, List.cons_append]
  go_wp2
  cases c₀
  simp_all [bodyPostS, results, Tryz.results36]
theorem Row.setOther {W : World} {g k : Nat} {t : TypeId} {vs : List Value} (h : Row W k t vs) (hne : k ≠ g) (cs : Array Value) : Row (W.setRow g cs) k t vs := h.keep (Go.setRow_other W g k cs hne)
set_option maxRecDepth 100000 in
set_option maxHeartbeats 2000000 in
theorem next1_panic (g g2 : Nat) (cs0 : List Value) (e0 E : Int) (hl : cs0.length = 39) (w : World) (r0 : Row w g 38 cs0) (r1 : Row w g2 39 [.int .i64 e0]) (hne : g ≠ g2) (B0 : Nat) (hg : B0 ≤ g ∧ B0 ≤ g2) :
    CallsD Tryz.prog 36 #[.pointer (some ⟨g, 0, none⟩), .pointer (some ⟨g2, 0, none⟩)] (.panicking ({ v := stopV E, recovered := false } :: [])) w fun e u' w' => e = .returned (.tuple #[]) ∧ u' = .panicking ({ v := stopV E, recovered := true } :: []) ∧ Below B0 w w' ∧ Row w' g 38 zeroF.cells ∧ Row w' g2 39 [.int .i64 E] := by
  refine callsD_of_wpS Tryz.func36 rfl fun c₀ cs hu => ?_
  apply wpS_seq
  apply wpS_region
  simp [wpOpsS, go_sem, recoverD, hu, Tryz.ntmps36, Exit.thenS]
  refine wpS_of_wp ?_
  simp only [List.size_toArray, List.length_cons, List.length_nil, Nat.reduceAdd, Nat.reduceSub, Array.replicate_succ, Array.replicate_zero, List.push_toArray, List.append_toArray, List.nil_append, List.cons_append]
  have hta : ∀ W : World, (Instr.typeAssert (stopV E) 20 87 true).run Tryz.prog W = .ok (.tuple #[.agg #[.int .i64 E], .bool true]) W := fun W => by kernel_rfl
  go_upto_region 5 with fail
  have q0 := (r0.alloc (.cells #[.int .i64 E] 87)).keep (w' := (w.alloc (.cells #[.int .i64 E] 87)).drew) rfl
  have q1 := (r1.alloc (.cells #[.int .i64 E] 87)).keep (w' := (w.alloc (.cells #[.int .i64 E] 87)).drew) rfl
  have q2 := (Row.new w 87 [.int .i64 E]).keep (w' := (w.alloc (.cells #[.int .i64 E] 87)).drew) rfl
  have hB : Below B0 w (w.alloc (.cells #[.int .i64 E] 87)).drew := ((Below.refl _ _).alloc (Nat.le_of_lt (Nat.lt_of_le_of_lt hg.1 r0.lt)) _).drew
  have hn1 : g ≠ w.heap.size := Nat.ne_of_lt r0.lt
  have hn2 : g2 ≠ w.heap.size := Nat.ne_of_lt r1.lt
  generalize w.heap.size = G at *
  refine wp_region_tree 4 (.take 0 (.take 1 (.take 2 (.one 3 .done)))) (fun W' => W'.cell? ⟨G, 0, none⟩ = some (.int .i64 E)) (by kernel_rfl) (by kernel_rfl) (fun _ _ d _ _ h => by cases d <;> exact h) (q2.cell 0) ?_
  generalize (w.alloc (.cells #[.int .i64 E] 87)).drew = W1 at *
  refine wpTree_take (v := .agg zeroF.cells.toArray) rfl (by kernel_rfl) (fun w' hSw => by kernel_rfl) ?_
  simp only [Act.put, List.getElem_toArray, List.getElem_cons_succ, List.getElem_cons_zero, List.setIfInBounds_toArray, List.set_cons_zero, List.set_cons_succ]
  refine wpTree_take (v := .pointer (some ⟨G, 0, none⟩)) rfl (by kernel_rfl) (fun w' hSw => ?_) ?_
  · go_simp
  simp only [Act.put, List.getElem_toArray, List.getElem_cons_succ, List.getElem_cons_zero, List.setIfInBounds_toArray, List.set_cons_zero, List.set_cons_succ]
  refine wpTree_take (v := .int .i64 E) rfl (by kernel_rfl) (fun w' hSw => ?_) ?_
  · go_simp
  simp only [Act.put, List.getElem_toArray, List.getElem_cons_succ, List.getElem_cons_zero, List.setIfInBounds_toArray, List.set_cons_zero, List.set_cons_succ]
  have hz : zeroF.cells.length = 39 := Fw.len (by simp [zeroF, zeroD])
  have hst := store_whole (Fw.one zeroF) q0 (by rw [hl, hz])
  have q3 := Row.part q0 zeroF.cells
  have q4 := Row.setOther q1 (g := g) (Ne.symm hne) zeroF.cells.toArray
  have q5 := Row.setOther q2 (g := g) (Ne.symm hn1) zeroF.cells.toArray
  have hB2 := below_setRow hB hg.1 zeroF.cells.toArray
  generalize W1.setRow g zeroF.cells.toArray = W2 at *
  obtain ⟨ZC, hZC⟩ : ∃ x, zeroF.cells = x := ⟨_, rfl⟩
  rw [hZC] at hst hz q3
  refine wpTree_one rfl (fun K hK => ⟨by kernel_rfl, ?_⟩)
  rw [hZC]
  go_simp
  refine hK _ _ (q5.cell 0) ?_
  refine wpTree_done ?_
  simp only [List.drop_succ_cons, List.drop_zero]
  clear hK K hst
  have y0 := Row.frozen q4 0
  have c4 := q4.cell 0
  have q6 := q4.store 0 (.int .i64 E)
  have q7 := q3.other (p := ⟨g2, 0, none⟩) (by simpa using hne) (.int .i64 E)
  have hB3 := hB2.setCell (p := ⟨g2, 0, none⟩) hg.2 (.int .i64 E)
  have Q6 := Lib.hid q6
  have Q7 := Lib.hid q7
  have QB := Lib.hid hB3
  have QZ := Lib.hid hZC
  clear q6 q7 hB3 hB2 q3 q0 q1 q2 q5 q4 hZC r0 r1 hB
  go_wp2
  exact ⟨rfl, _, rfl, .tuple #[], results_none rfl _ _ _, rfl, rfl, QB.out, by rw [QZ.out]; exact Q7.out, Q6.out⟩
end Go.Proofs.YthckledagggoiaaGreatDoor
