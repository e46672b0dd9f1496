import Derived.Test.YthckledagggoiaaGreatDoorPh
import Derived.Shelf.SlIterI.Nil
import Derived.Shelf.SortM.Plain
import Derived.Shelf.SortM.SortNone
set_option linter.unusedSimpArgs false
set_option linter.unusedVariables false
namespace Go.Proofs.YthckledagggoiaaGreatDoor
open Go.RowKit Go.Maps Go.Sort Go.Shelf
/-! aliases.sorted: the keys of a map, in order. -/
def keysR : Ren := ⟨fun | 7 => 129 | 10 => 153 | n => n, fun | 23 => 131 | 26 => 3 | 3 => 4 | 28 => 133 | 0 => 0 | 27 => 132 | 33 => 101 | 4 => 4 | n => n, fun n => n⟩
theorem keysL : SlLaysZI.n7 Tryz.prog keysR where
  mixed := by kernel_rfl
  f7 := ⟨ "maps.Keys[map[int]bool,int,bool]", by decide, (Tryz.func129).trans (congrArg some (by kernel_rfl))⟩
  f10 := ⟨ "maps.Keys[map[int]bool,int,bool]$1", by decide, (Tryz.func153).trans (congrArg some (by kernel_rfl))⟩
  t0 := Tryz.underlying0
  a0 := Tryz.isAgg0
  z0 := Tryz.sizeOf0
  v0 := Tryz.zeroValue0
  t4 := Tryz.underlying4
  a4 := Tryz.isAgg4
  z4 := Tryz.sizeOf4
  v4 := Tryz.zeroValue4
  t23 := Tryz.underlying131
  a23 := Tryz.isAgg131
  z23 := Tryz.sizeOf131
  v23 := Tryz.zeroValue131
  t26 := Tryz.underlying3
  a26 := Tryz.isAgg3
  z26 := Tryz.sizeOf3
  v26 := Tryz.zeroValue3
  t27 := Tryz.underlying132
  a27 := Tryz.isAgg132
  z27 := Tryz.sizeOf132
  v27 := Tryz.zeroValue132
  t28 := Tryz.underlying133
  a28 := Tryz.isAgg133
  z28 := Tryz.sizeOf133
  v28 := Tryz.zeroValue133
  t33 := Tryz.underlying101
  a33 := Tryz.isAgg101
  z33 := Tryz.sizeOf101
  v33 := Tryz.zeroValue101
def sortedR : Ren := ⟨fun | 6 => 128 | 8 => 151 | 9 => 152 | 11 => 170 | 13 => 172 | 12 => 171 | 23 => 196 | 24 => 197 | 14 => 187 | 15 => 188 | 16 => 189 | 17 => 190 | 18 => 191 | 19 => 192 | 20 => 193 | 21 => 194 | 22 => 195 | 25 => 201 | 26 => 202 | 27 => 203 | 28 => 204 | 29 => 205 | 30 => 206 | 31 => 207 | n => n, fun | 26 => 3 | 28 => 133 | 24 => 25 | 0 => 0 | 3 => 3 | 37 => 188 | 48 => 204 | 50 => 209 | 4 => 4 | 40 => 237 | 39 => 236 | 45 => 224 | 5 => 5 | 9 => 9 | 51 => 246 | 55 => 250 | 57 => 252 | 58 => 253 | 33 => 101 | n => n, fun n => n⟩
theorem sortedL : SlLaysZI.n6 Tryz.prog sortedR where
  mixed := by kernel_rfl
  f6 := ⟨ "slices.Sorted[int]", by decide, (Tryz.func128).trans (congrArg some (by kernel_rfl))⟩
  f8 := ⟨ "slices.Collect[int]", by decide, (Tryz.func151).trans (congrArg some (by kernel_rfl))⟩
  f11 := ⟨ "slices.AppendSeq[[]int,int]", by decide, (Tryz.func170).trans (congrArg some (by kernel_rfl))⟩
  t0 := Tryz.underlying0
  a0 := Tryz.isAgg0
  z0 := Tryz.sizeOf0
  v0 := Tryz.zeroValue0
  t24 := Tryz.underlying25
  a24 := Tryz.isAgg25
  z24 := Tryz.sizeOf25
  v24 := Tryz.zeroValue25
  t26 := Tryz.underlying3
  a26 := Tryz.isAgg3
  z26 := Tryz.sizeOf3
  v26 := Tryz.zeroValue3
  t28 := Tryz.underlying133
  a28 := Tryz.isAgg133
  z28 := Tryz.sizeOf133
  v28 := Tryz.zeroValue133
  i26 := by kernel_rfl
def sortR : Ren := ⟨fun | 5 => 152 | 8 => 172 | 7 => 171 | 19 => 196 | 20 => 197 | 10 => 187 | 11 => 188 | 12 => 189 | 13 => 190 | 14 => 191 | 15 => 192 | 16 => 193 | 17 => 194 | 18 => 195 | 30 => 201 | 31 => 202 | 32 => 203 | 33 => 204 | 34 => 205 | 35 => 206 | 40 => 207 | n => n, fun | 23 => 25 | 25 => 3 | 3 => 3 | 32 => 188 | 22 => 25 | 0 => 0 | 44 => 204 | 46 => 209 | 4 => 4 | 36 => 237 | 35 => 236 | 41 => 224 | 5 => 5 | 9 => 9 | 53 => 246 | 57 => 250 | 63 => 252 | 64 => 253 | n => n, fun n => n⟩
theorem sortL : SlLaysM.n5 Tryz.prog sortR where
  mixed := by kernel_rfl
  f5 := ⟨ "slices.Sort[[]int,int]", by decide, (Tryz.func152).trans (congrArg some (by kernel_rfl))⟩
  f7 := ⟨ "slices.pdqsortOrdered[int]", by decide, (Tryz.func171).trans (congrArg some (by kernel_rfl))⟩
  f8 := (Tryz.func172).trans (congrArg some (by kernel_rfl))
  f10 := ⟨ "slices.insertionSortOrdered[int]", by decide, (Tryz.func187).trans (congrArg some (by kernel_rfl))⟩
  f11 := ⟨ "slices.heapSortOrdered[int]", by decide, (Tryz.func188).trans (congrArg some (by kernel_rfl))⟩
  f12 := ⟨ "slices.breakPatternsOrdered[int]", by decide, (Tryz.func189).trans (congrArg some (by kernel_rfl))⟩
  f13 := ⟨ "slices.choosePivotOrdered[int]", by decide, (Tryz.func190).trans (congrArg some (by kernel_rfl))⟩
  f14 := ⟨ "slices.reverseRangeOrdered[int]", by decide, (Tryz.func191).trans (congrArg some (by kernel_rfl))⟩
  f15 := ⟨ "slices.partialInsertionSortOrdered[int]", by decide, (Tryz.func192).trans (congrArg some (by kernel_rfl))⟩
  f16 := ⟨ "cmp.Less[int]", by decide, (Tryz.func193).trans (congrArg some (by kernel_rfl))⟩
  f17 := ⟨ "slices.partitionEqualOrdered[int]", by decide, (Tryz.func194).trans (congrArg some (by kernel_rfl))⟩
  f18 := ⟨ "slices.partitionOrdered[int]", by decide, (Tryz.func195).trans (congrArg some (by kernel_rfl))⟩
  f19 := (Tryz.func196).trans (congrArg some (by kernel_rfl))
  f20 := (Tryz.func197).trans (congrArg some (by kernel_rfl))
  f30 := ⟨ "slices.siftDownOrdered[int]", by decide, (Tryz.func201).trans (congrArg some (by kernel_rfl))⟩
  f31 := (Tryz.func202).trans (congrArg some (by kernel_rfl))
  f32 := (Tryz.func203).trans (congrArg some (by kernel_rfl))
  f33 := ⟨ "slices.medianAdjacentOrdered[int]", by decide, (Tryz.func204).trans (congrArg some (by kernel_rfl))⟩
  f34 := ⟨ "slices.medianOrdered[int]", by decide, (Tryz.func205).trans (congrArg some (by kernel_rfl))⟩
  f35 := ⟨ "cmp.isNaN[int]", by decide, (Tryz.func206).trans (congrArg some (by kernel_rfl))⟩
  f40 := ⟨ "slices.order2Ordered[int]", by decide, (Tryz.func207).trans (congrArg some (by kernel_rfl))⟩
  t0 := Tryz.underlying0
  a0 := Tryz.isAgg0
  z0 := Tryz.sizeOf0
  v0 := Tryz.zeroValue0
  t3 := Tryz.underlying3
  a3 := Tryz.isAgg3
  z3 := Tryz.sizeOf3
  v3 := Tryz.zeroValue3
  t4 := Tryz.underlying4
  a4 := Tryz.isAgg4
  z4 := Tryz.sizeOf4
  v4 := Tryz.zeroValue4
  t5 := Tryz.underlying5
  a5 := Tryz.isAgg5
  z5 := Tryz.sizeOf5
  v5 := Tryz.zeroValue5
  t9 := Tryz.underlying9
  a9 := Tryz.isAgg9
  z9 := Tryz.sizeOf9
  v9 := Tryz.zeroValue9
  t22 := Tryz.underlying25
  a22 := Tryz.isAgg25
  z22 := Tryz.sizeOf25
  v22 := Tryz.zeroValue25
  t23 := Tryz.underlying25
  a23 := Tryz.isAgg25
  z23 := Tryz.sizeOf25
  v23 := Tryz.zeroValue25
  t25 := Tryz.underlying3
  a25 := Tryz.isAgg3
  z25 := Tryz.sizeOf3
  v25 := Tryz.zeroValue3
  t32 := Tryz.underlying188
  a32 := Tryz.isAgg188
  z32 := Tryz.sizeOf188
  v32 := Tryz.zeroValue188
  t35 := Tryz.underlying236
  a35 := Tryz.isAgg236
  z35 := Tryz.sizeOf236
  v35 := Tryz.zeroValue236
  t36 := Tryz.underlying237
  a36 := Tryz.isAgg237
  z36 := Tryz.sizeOf237
  v36 := Tryz.zeroValue237
  t41 := Tryz.underlying224
  a41 := Tryz.isAgg224
  z41 := Tryz.sizeOf224
  v41 := Tryz.zeroValue224
  t44 := Tryz.underlying204
  a44 := Tryz.isAgg204
  z44 := Tryz.sizeOf204
  v44 := Tryz.zeroValue204
  t46 := Tryz.underlying209
  a46 := Tryz.isAgg209
  z46 := Tryz.sizeOf209
  v46 := Tryz.zeroValue209
  t53 := Tryz.underlying246
  a53 := Tryz.isAgg246
  z53 := Tryz.sizeOf246
  v53 := Tryz.zeroValue246
  t57 := Tryz.underlying250
  a57 := Tryz.isAgg250
  z57 := Tryz.sizeOf250
  v57 := Tryz.zeroValue250
  t63 := Tryz.underlying252
  a63 := Tryz.isAgg252
  z63 := Tryz.sizeOf252
  v63 := Tryz.zeroValue252
  t64 := Tryz.underlying253
  a64 := Tryz.isAgg253
  z64 := Tryz.sizeOf253
  v64 := Tryz.zeroValue253
theorem sortsL (m : Nat) : AnyZI.SortsIn Tryz.prog sortedR Fence.wide m :=
  ⟨fun blk off cap ss W hH hblk hsz => callsIn_wide.2 (AnyM.slices_Sort_int sortL blk off cap ss W hH hblk hsz),
   fun p cap W => callsIn_wide.2 (AnyM.slices_Sort_int_none sortL p cap W)⟩
set_option maxHeartbeats 1000000 in
theorem sorted_any {H : Type} (b nn : Nat) (D0 : DataW H) (R : Value → Option (DataW H × List MemPlace)) (w : World) (hown : w.ownsMap Tryz.prog 3 R b nn D0) (hmax : Maps.size D0 ≤ maxLen) (hbytes : Maps.size D0 * 8 ≤ 140737488355328) :
    Calls Tryz.prog 78 #[.map (some b)] w fun e w' => ∃ (v : Value) (ss : List Int), e = .returned v ∧ ss.Perm (intKeys D0) ∧
      w'.ownsRow w.heap.size 3 1 v ss.length ((ss.mergeSort (fun x y => decide (x ≤ y))).map encZ) ∧ (v = .slice none 0 0 ↔ ss = []) ∧ Below w.heap.size w w' := by
  refine (callsIn_wide (n := 6)).1 ?_
  have hbl := hown.lt
  have hseq : SeqGives Fence.wide 2 Tryz.prog 153 #[.pointer (some ⟨w.heap.size, 0, none⟩)] encZ (fun ss => ss.Perm (intKeys D0)) (Maps.size D0) (w.alloc (.cells #[.map (some b)] 131)) :=
    AnyZI.keys_gives (ρ := keysR) { keysL with } Fence.wide _ trivial rfl (by omega) w.heap.size b nn D0 _ (by simp) (by simp) (by
      obtain ⟨es, clock, hb, Ft, hs, hD⟩ := hown
      exact ⟨es, clock, (Below.heap_alloc _ _ b hbl).trans hb, Ft, hs, hD⟩)
  have cK : ∀ mb W, CallsIn Fence.wide 5 Tryz.prog 129 #[.map mb] W fun e w' => e = .returned (.func (.func 153) #[] #[.pointer (some ⟨W.heap.size, 0, none⟩)]) ∧ w' = W.alloc (.cells #[.map mb] 131) := fun mb W => AnyZI.keys_in keysL Fence.wide 5 trivial rfl mb W
  have cS := AnyZI.sorted_in sortedL Fence.wide 5 trivial trivial trivial trivial rfl (by omega) (sortsL _) (enters_of Tryz.func152 (by kernel_rfl) rfl) 153 #[.pointer (some ⟨w.heap.size, 0, none⟩)] trivial (enters_of Tryz.func153 (by kernel_rfl) rfl) _ _ hmax hbytes _ hseq
  change CallsIn _ _ Tryz.prog 128 _ _ _ at cS
  have hfK : Fence.wide.fn 129 := trivial
  have hfS : Fence.wide.fn 128 := trivial
  refine callsIn_of_wp Tryz.func78 rfl trivial ?_ rfl
  simp only [Tryz.ntmps78, List.size_toArray, List.length_cons, List.length_nil, Nat.reduceAdd, Nat.reduceSub, Array.replicate_succ, Array.replicate_zero, List.push_toArray, List.append_toArray, List.nil_append, List.cons_append]
  gi_wp2_with (first
    | (gi_at_call 129; refine (cK _ _).mono ?_; rintro e w' ⟨rfl, rfl⟩)
    | (gi_at_call 128; refine cS.mono ?_; rintro e w' ⟨v, ss, rfl, hS, hrow, hnil, hb⟩))
  go_ret
  exact ⟨v, ss, rfl, hS, ownsRow_base_a hrow (by simp), hnil, ((Below.refl _ w).alloc (Nat.le_refl _) _).trans (hb.mono (by simp))⟩
end Go.Proofs.YthckledagggoiaaGreatDoor
