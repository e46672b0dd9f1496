import Derived.Test.YtaheibbbdglcmaaDoorRd1
import Derived.Test.YtaheibbbdglcmaaDoorDg5
namespace Go.Proofs.YtaheibbbdglcmaaDoor
open Go.RowKit Fk Sha
/-! The reference's words and numbers. -/
theorem four_of {l : List B} (h : l.length = 4) : ∃ a b c d, l = [a, b, c, d] := by
  match l, h with
  | [a, b, c, d], _ => exact ⟨a, b, c, d, rfl⟩
theorem wd_join (a b c d : B) : bits .or .u32 (bits .or .u32 (bits .or .u32 (bn a * (16777216 : Int)) (bn b * (65536 : Int))) (bn c * (256 : Int))) (bn d) = un (wd [a, b, c, d]) := by
  rw [wd_four]
  have e1 := shl_n (a.setWidth 32) 24
  have e2 := shl_n (b.setWidth 32) 16
  have e3 := shl_n (c.setWidth 32) 8
  obtain ⟨p0, q0⟩ := bn_bd a
  obtain ⟨p1, q1⟩ := bn_bd b
  obtain ⟨p2, q2⟩ := bn_bd c
  rw [show ((2 : Int) ^ 24) = 16777216 by decide, byte_n, Int.emod_eq_of_lt (by omega) (by omega)] at e1
  rw [show ((2 : Int) ^ 16) = 65536 by decide, byte_n, Int.emod_eq_of_lt (by omega) (by omega)] at e2
  rw [show ((2 : Int) ^ 8) = 256 by decide, byte_n, Int.emod_eq_of_lt (by omega) (by omega)] at e3
  rw [e1, e2, e3, ← byte_n d, or_n, or_n, or_n]
set_option maxHeartbeats 1000000 in
theorem refword_any (l : List B) (b off cap : Nat) (w : World) (hl : l.length = 4) (h : ∀ i, i < 4 → w.cell? ⟨b, off + i, none⟩ = some (bv (l.getD i default))) :
    Calls Tryd.prog 93 #[.slice (some ⟨b, off, none⟩) 4 cap] w fun e w' => e = .returned (u (wd l)) ∧ ∃ m, w' = w.drewN m := by
  obtain ⟨x0, x1, x2, x3, rfl⟩ := four_of hl
  have c0 : w.cell? ⟨b, off, none⟩ = some (.int .u8 (bn x0)) := h 0 (by omega)
  have c1 : w.cell? ⟨b, off + 1, none⟩ = some (.int .u8 (bn x1)) := h 1 (by omega)
  have c2 : w.cell? ⟨b, off + 2, none⟩ = some (.int .u8 (bn x2)) := h 2 (by omega)
  have c3 : w.cell? ⟨b, off + 3, none⟩ = some (.int .u8 (bn x3)) := h 3 (by omega)
  have hj := wd_join x0 x1 x2 x3
  obtain ⟨p0, q0⟩ := bn_bd x0
  obtain ⟨p1, q1⟩ := bn_bd x1
  obtain ⟨p2, q2⟩ := bn_bd x2
  obtain ⟨p3, q3⟩ := bn_bd x3
  unfold u
  generalize un (wd [x0, x1, x2, x3]) = y at *
  generalize bn x0 = n0 at *
  generalize bn x1 = n1 at *
  generalize bn x2 = n2 at *
  generalize bn x3 = n3 at *
  have HJ := Lib.hid hj
  clear h hj hl
  go_enter Tryd.func93, Tryd.ntmps93
  go_wp2
  go_quiet (fail)
  go_wp2
  go_ret
  exact ⟨ret_u32s (by rw [← HJ.out]), _, rfl⟩
set_option maxRecDepth 100000 in
set_option maxHeartbeats 1000000 in
theorem refnumbers_any (w : World) :
    Calls Tryd.prog 95 #[] w fun e w' => e = .returned (.agg (numbersL.map u).toArray) ∧ Below w.heap.size w w' := by
  go_enter Tryd.func95, Tryd.ntmps95
  go_upto_region 1 with (fail)
  have hinf : (Tryd.prog.info? 117).map (·.size) = some 64 := by kernel_rfl
  have hg := World.alloc_heap_new w (.cells (List.replicate 64 (Value.int .u32 0)).toArray 117)
  refine wp_region_lit ?_
  refine wpList_build rfl 117 _ rfl (by kernel_rfl) ?_
  refine wpList_store_row rfl 117 (.tmp 0) (.tmp 1) rfl w.heap.size (numbersL.map u).toArray rfl (by kernel_rfl) 117 (List.replicate 64 (Value.int .u32 0)).toArray hg hinf rfl (by kernel_rfl) ?_
  refine (show _ = w.alloc (.cells (numbersL.map u).toArray 117) from setRow_new w _ _ _) ▸ ?_
  go_wp2
  exact bodyPost_ret (v := .agg (numbersL.map u).toArray) (results_cell_row (g := w.heap.size) (t := 117) (fr := (0, 0)) rfl _ _ _ _ rfl (World.alloc_heap_new w _) Tryd.underlying117 rfl hinf) rfl ⟨rfl, (Below.refl _ w).alloc (Nat.le_refl _) _⟩
end Go.Proofs.YtaheibbbdglcmaaDoor
