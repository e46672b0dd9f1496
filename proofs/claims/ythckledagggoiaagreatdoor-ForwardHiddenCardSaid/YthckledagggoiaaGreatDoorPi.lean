import Derived.Test.YthckledagggoiaaGreatDoorPh
import Derived.Deep.QuietTactic
import Derived.BigQuiet
import Derived.Deep.Cut
import Derived.Great.Walk
import Derived.IntWalk
namespace Go.Proofs.YthckledagggoiaaGreatDoor
open Go.RowKit Fk Sha
/-! The reference's small functions of the hash. -/
theorem ret_u32s {a b : Int} (h : a = b) : Ending.returned (.int .u32 a) = .returned (.int .u32 b) := by rw [h]
theorem ror_2 (x : W) (w : World) :
    Calls Tryz.prog 199 #[u x, .int .i64 2] w fun e w' => e = .returned (u (rr x 2)) ∧ ∃ m, w' = w.drewN m := by
  unfold u
  have hx := (un_bd x).1
  have h2 := shr_n x 2
  have h3 := shl_n x (32 - 2)
  rw [show ((2 : Int) ^ 2) = 4 by decide] at h2
  rw [show ((2 : Int) ^ (32 - 2)) = 1073741824 by decide] at h3
  have h4 := or_n (x >>> 2) (x <<< (32 - 2))
  go_enter Tryz.func199, Tryz.ntmps199
  go_wp2
  go_quiet (fail)
  go_wp2
  go_ret
  exact ⟨ret_u32s (by unfold rr; rfl), _, rfl⟩
theorem ror_6 (x : W) (w : World) :
    Calls Tryz.prog 199 #[u x, .int .i64 6] w fun e w' => e = .returned (u (rr x 6)) ∧ ∃ m, w' = w.drewN m := by
  unfold u
  have hx := (un_bd x).1
  have h2 := shr_n x 6
  have h3 := shl_n x (32 - 6)
  rw [show ((2 : Int) ^ 6) = 64 by decide] at h2
  rw [show ((2 : Int) ^ (32 - 6)) = 67108864 by decide] at h3
  have h4 := or_n (x >>> 6) (x <<< (32 - 6))
  go_enter Tryz.func199, Tryz.ntmps199
  go_wp2
  go_quiet (fail)
  go_wp2
  go_ret
  exact ⟨ret_u32s (by unfold rr; rfl), _, rfl⟩
theorem ror_7 (x : W) (w : World) :
    Calls Tryz.prog 199 #[u x, .int .i64 7] w fun e w' => e = .returned (u (rr x 7)) ∧ ∃ m, w' = w.drewN m := by
  unfold u
  have hx := (un_bd x).1
  have h2 := shr_n x 7
  have h3 := shl_n x (32 - 7)
  rw [show ((2 : Int) ^ 7) = 128 by decide] at h2
  rw [show ((2 : Int) ^ (32 - 7)) = 33554432 by decide] at h3
  have h4 := or_n (x >>> 7) (x <<< (32 - 7))
  go_enter Tryz.func199, Tryz.ntmps199
  go_wp2
  go_quiet (fail)
  go_wp2
  go_ret
  exact ⟨ret_u32s (by unfold rr; rfl), _, rfl⟩
theorem ror_11 (x : W) (w : World) :
    Calls Tryz.prog 199 #[u x, .int .i64 11] w fun e w' => e = .returned (u (rr x 11)) ∧ ∃ m, w' = w.drewN m := by
  unfold u
  have hx := (un_bd x).1
  have h2 := shr_n x 11
  have h3 := shl_n x (32 - 11)
  rw [show ((2 : Int) ^ 11) = 2048 by decide] at h2
  rw [show ((2 : Int) ^ (32 - 11)) = 2097152 by decide] at h3
  have h4 := or_n (x >>> 11) (x <<< (32 - 11))
  go_enter Tryz.func199, Tryz.ntmps199
  go_wp2
  go_quiet (fail)
  go_wp2
  go_ret
  exact ⟨ret_u32s (by unfold rr; rfl), _, rfl⟩
theorem ror_13 (x : W) (w : World) :
    Calls Tryz.prog 199 #[u x, .int .i64 13] w fun e w' => e = .returned (u (rr x 13)) ∧ ∃ m, w' = w.drewN m := by
  unfold u
  have hx := (un_bd x).1
  have h2 := shr_n x 13
  have h3 := shl_n x (32 - 13)
  rw [show ((2 : Int) ^ 13) = 8192 by decide] at h2
  rw [show ((2 : Int) ^ (32 - 13)) = 524288 by decide] at h3
  have h4 := or_n (x >>> 13) (x <<< (32 - 13))
  go_enter Tryz.func199, Tryz.ntmps199
  go_wp2
  go_quiet (fail)
  go_wp2
  go_ret
  exact ⟨ret_u32s (by unfold rr; rfl), _, rfl⟩
theorem ror_17 (x : W) (w : World) :
    Calls Tryz.prog 199 #[u x, .int .i64 17] w fun e w' => e = .returned (u (rr x 17)) ∧ ∃ m, w' = w.drewN m := by
  unfold u
  have hx := (un_bd x).1
  have h2 := shr_n x 17
  have h3 := shl_n x (32 - 17)
  rw [show ((2 : Int) ^ 17) = 131072 by decide] at h2
  rw [show ((2 : Int) ^ (32 - 17)) = 32768 by decide] at h3
  have h4 := or_n (x >>> 17) (x <<< (32 - 17))
  go_enter Tryz.func199, Tryz.ntmps199
  go_wp2
  go_quiet (fail)
  go_wp2
  go_ret
  exact ⟨ret_u32s (by unfold rr; rfl), _, rfl⟩
theorem ror_18 (x : W) (w : World) :
    Calls Tryz.prog 199 #[u x, .int .i64 18] w fun e w' => e = .returned (u (rr x 18)) ∧ ∃ m, w' = w.drewN m := by
  unfold u
  have hx := (un_bd x).1
  have h2 := shr_n x 18
  have h3 := shl_n x (32 - 18)
  rw [show ((2 : Int) ^ 18) = 262144 by decide] at h2
  rw [show ((2 : Int) ^ (32 - 18)) = 16384 by decide] at h3
  have h4 := or_n (x >>> 18) (x <<< (32 - 18))
  go_enter Tryz.func199, Tryz.ntmps199
  go_wp2
  go_quiet (fail)
  go_wp2
  go_ret
  exact ⟨ret_u32s (by unfold rr; rfl), _, rfl⟩
theorem ror_19 (x : W) (w : World) :
    Calls Tryz.prog 199 #[u x, .int .i64 19] w fun e w' => e = .returned (u (rr x 19)) ∧ ∃ m, w' = w.drewN m := by
  unfold u
  have hx := (un_bd x).1
  have h2 := shr_n x 19
  have h3 := shl_n x (32 - 19)
  rw [show ((2 : Int) ^ 19) = 524288 by decide] at h2
  rw [show ((2 : Int) ^ (32 - 19)) = 8192 by decide] at h3
  have h4 := or_n (x >>> 19) (x <<< (32 - 19))
  go_enter Tryz.func199, Tryz.ntmps199
  go_wp2
  go_quiet (fail)
  go_wp2
  go_ret
  exact ⟨ret_u32s (by unfold rr; rfl), _, rfl⟩
theorem ror_22 (x : W) (w : World) :
    Calls Tryz.prog 199 #[u x, .int .i64 22] w fun e w' => e = .returned (u (rr x 22)) ∧ ∃ m, w' = w.drewN m := by
  unfold u
  have hx := (un_bd x).1
  have h2 := shr_n x 22
  have h3 := shl_n x (32 - 22)
  rw [show ((2 : Int) ^ 22) = 4194304 by decide] at h2
  rw [show ((2 : Int) ^ (32 - 22)) = 1024 by decide] at h3
  have h4 := or_n (x >>> 22) (x <<< (32 - 22))
  go_enter Tryz.func199, Tryz.ntmps199
  go_wp2
  go_quiet (fail)
  go_wp2
  go_ret
  exact ⟨ret_u32s (by unfold rr; rfl), _, rfl⟩
theorem ror_25 (x : W) (w : World) :
    Calls Tryz.prog 199 #[u x, .int .i64 25] w fun e w' => e = .returned (u (rr x 25)) ∧ ∃ m, w' = w.drewN m := by
  unfold u
  have hx := (un_bd x).1
  have h2 := shr_n x 25
  have h3 := shl_n x (32 - 25)
  rw [show ((2 : Int) ^ 25) = 33554432 by decide] at h2
  rw [show ((2 : Int) ^ (32 - 25)) = 128 by decide] at h3
  have h4 := or_n (x >>> 25) (x <<< (32 - 25))
  go_enter Tryz.func199, Tryz.ntmps199
  go_wp2
  go_quiet (fail)
  go_wp2
  go_ret
  exact ⟨ret_u32s (by unfold rr; rfl), _, rfl⟩
end Go.Proofs.YthckledagggoiaaGreatDoor

namespace Go.Proofs.YthckledagggoiaaGreatDoor
open Go.RowKit Fk Sha
/-! The reference's words and numbers. -/
theorem four_of {l : List B} (h : l.length = 4) : ∃ a b c d, l = [a, b, c, d] := by
  match l, h with
  | [a, b, c, d], _ => exact ⟨a, b, c, d, rfl⟩
theorem wd_join (a b c d : B) : bits .or .u32 (bits .or .u32 (bits .or .u32 (bn a * (16777216 : Int)) (bn b * (65536 : Int))) (bn c * (256 : Int))) (bn d) = un (wd [a, b, c, d]) := by
  rw [wd_four]
  have e1 := shl_n (a.setWidth 32) 24
  have e2 := shl_n (b.setWidth 32) 16
  have e3 := shl_n (c.setWidth 32) 8
  obtain ⟨p0, q0⟩ := bn_bd a
  obtain ⟨p1, q1⟩ := bn_bd b
  obtain ⟨p2, q2⟩ := bn_bd c
  rw [show ((2 : Int) ^ 24) = 16777216 by decide, byte_n, Int.emod_eq_of_lt (by omega) (by omega)] at e1
  rw [show ((2 : Int) ^ 16) = 65536 by decide, byte_n, Int.emod_eq_of_lt (by omega) (by omega)] at e2
  rw [show ((2 : Int) ^ 8) = 256 by decide, byte_n, Int.emod_eq_of_lt (by omega) (by omega)] at e3
  rw [e1, e2, e3, ← byte_n d, or_n, or_n, or_n]
set_option maxHeartbeats 1000000 in
theorem refword_any (l : List B) (b off cap : Nat) (w : World) (hl : l.length = 4) (h : ∀ i, i < 4 → w.cell? ⟨b, off + i, none⟩ = some (bv (l.getD i default))) :
    Calls Tryz.prog 198 #[.slice (some ⟨b, off, none⟩) 4 cap] w fun e w' => e = .returned (u (wd l)) ∧ ∃ m, w' = w.drewN m := by
  obtain ⟨x0, x1, x2, x3, rfl⟩ := four_of hl
  have c0 : w.cell? ⟨b, off, none⟩ = some (.int .u8 (bn x0)) := h 0 (by omega)
  have c1 : w.cell? ⟨b, off + 1, none⟩ = some (.int .u8 (bn x1)) := h 1 (by omega)
  have c2 : w.cell? ⟨b, off + 2, none⟩ = some (.int .u8 (bn x2)) := h 2 (by omega)
  have c3 : w.cell? ⟨b, off + 3, none⟩ = some (.int .u8 (bn x3)) := h 3 (by omega)
  have hj := wd_join x0 x1 x2 x3
  obtain ⟨p0, q0⟩ := bn_bd x0
  obtain ⟨p1, q1⟩ := bn_bd x1
  obtain ⟨p2, q2⟩ := bn_bd x2
  obtain ⟨p3, q3⟩ := bn_bd x3
  unfold u
  generalize un (wd [x0, x1, x2, x3]) = y at *
  generalize bn x0 = n0 at *
  generalize bn x1 = n1 at *
  generalize bn x2 = n2 at *
  generalize bn x3 = n3 at *
  have HJ := Lib.hid hj
  clear h hj hl
  go_enter Tryz.func198, Tryz.ntmps198
  go_wp2
  go_quiet (fail)
  go_wp2
  go_ret
  exact ⟨ret_u32s (by rw [← HJ.out]), _, rfl⟩
set_option maxRecDepth 100000 in
set_option maxHeartbeats 1000000 in
theorem refnumbers_any (w : World) :
    Calls Tryz.prog 200 #[] w fun e w' => e = .returned (.agg (numbersL.map u).toArray) ∧ Below w.heap.size w w' := by
  go_enter Tryz.func200, Tryz.ntmps200
  go_upto_region 1 with (fail)
  have hinf : (Tryz.prog.info? 230).map (·.size) = some 64 := by kernel_rfl
  have hg := World.alloc_heap_new w (.cells (List.replicate 64 (Value.int .u32 0)).toArray 230)
  refine wp_region_lit ?_
  refine wpList_build rfl 230 _ rfl (by kernel_rfl) ?_
  refine wpList_store_row rfl 230 (.tmp 0) (.tmp 1) rfl w.heap.size (numbersL.map u).toArray rfl (by kernel_rfl) 230 (List.replicate 64 (Value.int .u32 0)).toArray hg hinf rfl (by kernel_rfl) ?_
  refine (show _ = w.alloc (.cells (numbersL.map u).toArray 230) from setRow_new w _ _ _) ▸ ?_
  go_wp2
  exact bodyPost_ret (v := .agg (numbersL.map u).toArray) (results_cell_row (g := w.heap.size) (t := 230) (fr := (0, 0)) rfl _ _ _ _ rfl (World.alloc_heap_new w _) Tryz.underlying230 rfl hinf) rfl ⟨rfl, (Below.refl _ w).alloc (Nat.le_refl _) _⟩
end Go.Proofs.YthckledagggoiaaGreatDoor

set_option linter.unusedSimpArgs false
namespace Go.Proofs.YthckledagggoiaaGreatDoor
open Go.RowKit Fk Sha
/-! The reference's block. -/
set_option maxRecDepth 100000 in
/-- the numbers laid into a new block -/
theorem store64 (W : World) : (storeCells ⟨W.heap.size, 0, none⟩ (numbersL.map u)).run Tryz.prog (W.alloc (.cells #[Value.int IntKind.u32 0, Value.int IntKind.u32 0, Value.int IntKind.u32 0, Value.int IntKind.u32 0, Value.int IntKind.u32 0, Value.int IntKind.u32 0, Value.int IntKind.u32 0, Value.int IntKind.u32 0, Value.int IntKind.u32 0, Value.int IntKind.u32 0, Value.int IntKind.u32 0, Value.int IntKind.u32 0, Value.int IntKind.u32 0, Value.int IntKind.u32 0, Value.int IntKind.u32 0, Value.int IntKind.u32 0, Value.int IntKind.u32 0, Value.int IntKind.u32 0, Value.int IntKind.u32 0, Value.int IntKind.u32 0, Value.int IntKind.u32 0, Value.int IntKind.u32 0, Value.int IntKind.u32 0, Value.int IntKind.u32 0, Value.int IntKind.u32 0, Value.int IntKind.u32 0, Value.int IntKind.u32 0, Value.int IntKind.u32 0, Value.int IntKind.u32 0, Value.int IntKind.u32 0, Value.int IntKind.u32 0, Value.int IntKind.u32 0, Value.int IntKind.u32 0, Value.int IntKind.u32 0, Value.int IntKind.u32 0, Value.int IntKind.u32 0, Value.int IntKind.u32 0, Value.int IntKind.u32 0, Value.int IntKind.u32 0, Value.int IntKind.u32 0, Value.int IntKind.u32 0, Value.int IntKind.u32 0, Value.int IntKind.u32 0, Value.int IntKind.u32 0, Value.int IntKind.u32 0, Value.int IntKind.u32 0, Value.int IntKind.u32 0, Value.int IntKind.u32 0, Value.int IntKind.u32 0, Value.int IntKind.u32 0, Value.int IntKind.u32 0, Value.int IntKind.u32 0, Value.int IntKind.u32 0, Value.int IntKind.u32 0, Value.int IntKind.u32 0, Value.int IntKind.u32 0, Value.int IntKind.u32 0, Value.int IntKind.u32 0, Value.int IntKind.u32 0, Value.int IntKind.u32 0, Value.int IntKind.u32 0, Value.int IntKind.u32 0, Value.int IntKind.u32 0, Value.int IntKind.u32 0] 230)) = .ok () (W.alloc (.cells (numbersL.map u).toArray 230)) := by
  have := run_storeCells_from (P := Tryz.prog) W.heap.size 230 (numbersL.map u) 0 (List.replicate 64 (Value.int .u32 0)).toArray (W.alloc (.cells (List.replicate 64 (Value.int .u32 0)).toArray 230)) (World.alloc_heap_new W _) rfl (fun v hv => by obtain ⟨y, _, rfl⟩ := List.mem_map.1 hv; rfl)
  rw [List.take_zero, List.nil_append, setRow_new] at this
  exact this
theorem not_if (x : W) : bits .xor .u32 (if IntKind.u32.signed = true then -1 else IntKind.u32.max) (un x) = un (~~~x) := not_n x
theorem num_at {W : World} {g : Nat} {t : TypeId} (h : Row W g t (numbersL.map u)) {k : Nat} (hk : k < 64) : W.cell? ⟨g, k, none⟩ = some (u (numbersL.getD k 0)) := by
  have hl : k < numbersL.length := hk
  rw [Row.cell h, List.getElem?_map, List.getD_eq_getElem?_getD, List.getElem?_eq_getElem hl]; rfl
set_option maxRecDepth 100000 in
set_option maxHeartbeats 4000000 in
theorem block_any (s : St) (blk : List B) (bg off cap : Nat) (w : World) (hl : blk.length = 64) (hcap : 64 ≤ cap) (hcap2 : cap ≤ 9223372036854775807)
    (hB : ∀ i, i < 64 → w.cell? ⟨bg, off + i, none⟩ = some (bv (blk.getD i default))) (hbg : bg < w.heap.size) :
    Calls Tryz.prog 174 #[.agg #[.int .u32 (un s.a), .int .u32 (un s.b), .int .u32 (un s.c), .int .u32 (un s.d), .int .u32 (un s.e), .int .u32 (un s.f), .int .u32 (un s.g), .int .u32 (un s.h)], .slice (some ⟨bg, off, none⟩) 64 cap] w fun e w' => e = .returned (.agg ((absorb s blk).list.map u).toArray) ∧ Below w.heap.size w w' := by
  go_enter Tryz.func174, Tryz.ntmps174
  go_upto_region 1 with (fail)
  obtain ⟨w0, hw0⟩ : ∃ w0 : World, (w.alloc (.cells (s.list.map u).toArray 205)).alloc (.cells (List.replicate 8 (Value.int .u32 0)).toArray 205) = w0 := ⟨_, rfl⟩
  have hz0 : w0.heap.size = w.heap.size + 2 := by rw [← hw0]; simp
  have hS0 : Row w0 w.heap.size 205 (s.list.map u) := by rw [← hw0]; exact Row.alloc (Row.new w _ _) _
  have hR0 : Row w0 (w.heap.size + 1) 205 (List.replicate 8 (.int .u32 0)) := by rw [← hw0]; exact row_at' (by simp) _ _
  have hB0 : Below w.heap.size w w0 := by rw [← hw0]; exact ((Below.refl _ w).alloc (Nat.le_refl _) _).alloc (by simp) _
  have hb0 : ∀ i, i < 64 → w0.cell? ⟨bg, off + i, none⟩ = some (bv (blk.getD i default)) := fun i hi => (hB0.cell (p := ⟨bg, off + i, none⟩) hbg).trans (hB i hi)
  have hbg0 : bg < w0.heap.size := by omega
  refine (show _ = w0 from hw0) ▸ ?_
  have hwd : Wd w0 (w0.alloc (Obj.cells (List.replicate 64 (Value.int IntKind.u32 0)).toArray 230)) [] := ⟨(Below.refl _ _).alloc (Nat.le_refl _) _, by simp, Row.new w0 _ _⟩
  have HB := Lib.hid hb0
  have HZ := Lib.hid hz0
  have HS := Lib.hid hS0
  have HR := Lib.hid hR0
  have HB0 := Lib.hid hB0
  clear hw0 hB hb0 hz0 hS0 hR0 hB0
  have hl16 := fun k => first16_length blk k
  refine wp_region_lit ?_
  refine Great.wpList_runTo rfl (some 22) rfl (.agg (List.replicate 64 (Value.int .u32 0)).toArray) w0 (by kernel_rfl) ?_
  refine Great.wpList_runTo rfl (some 5) rfl (.pointer (some ⟨w0.heap.size, 0, none⟩)) (w0.alloc (.cells (List.replicate 64 (Value.int .u32 0)).toArray 230)) (by kernel_rfl) ?_
  refine wpList_store_row rfl 230 (.tmp 5) (.tmp 22) rfl w0.heap.size (List.replicate 64 (Value.int .u32 0)).toArray rfl rfl 230 (List.replicate 64 (Value.int .u32 0)).toArray (World.alloc_heap_new w0 _) (by kernel_rfl) rfl (by kernel_rfl) ?_
  rw [setRow_new w0]
  generalize Value.agg (List.replicate 64 (Value.int .u32 0)).toArray = v22 at *
  generalize w0.alloc (.cells (List.replicate 64 (Value.int .u32 0)).toArray 230) = W1 at *
  go_wp2_with fail
  go_loopg [6] 16 (fun gk i wr => ∃ k : Nat, i = .int .i64 k ∧ k + gk = 16 ∧ Wd w0 wr (first16 blk k))
  case atStart => exact ⟨0, rfl, rfl, hwd⟩
  case round =>
    clear hwd
    obtain ⟨k, rfl, hk, hR⟩ := hrel
    by_cases hlt : k < 16
    · have hc : ∀ i, i < 4 → wr.cell? ⟨bg, off + 4 * k + i, none⟩ = some (bv (((blk.drop (4 * k)).take 4).getD i default)) := fun i hi => by
        rw [hR.below.cell (p := ⟨bg, off + 4 * k + i, none⟩) hbg0, Nat.add_assoc, HB.out _ (by omega), List.getD_eq_getElem?_getD, List.getD_eq_getElem?_getD, List.getElem?_take_of_lt hi, List.getElem?_drop]
      have hw := fun cap => refword_any ((blk.drop (4 * k)).take 4) bg (off + 4 * k) cap wr (by simp; omega) hc
      have hx : ∀ m, ∃ v, (wr.drewN m).cell? ⟨w0.heap.size, k, none⟩ = some v := fun m => ⟨_, (Row.cell (hR.drewN m).row k).trans (List.getElem?_eq_getElem (by simp [hl16]; omega))⟩
      have hp := fun m => (hR.drewN m).put (hl16 k) (by omega) (wd ((blk.drop (4 * k)).take 4))
      have hf := fun m => Row.frozen (hR.drewN m).row k
      unfold u at hw hp
      generalize un (wd ((blk.drop (4 * k)).take 4)) = x at *
      have HW := Lib.hid hw
      have HP := Lib.hid hp
      have HX := Lib.hid hx
      have HF := Lib.hid hf
      clear hw hp hc hR hx hf
      go_wp2_with (go_at_call 198; (with_reducible refine (HW.out _).mono ?_); rintro e w1 ⟨rfl, m, rfl⟩; obtain ⟨v0, hv0⟩ := HX.out m; have hf := HF.out m)
      go_roundg (gk - 1)
      case measure => omega
      case rel => exact ⟨k + 1, by go_num, by omega, HP.out _⟩
    · obtain rfl : k = 16 := by omega
      have hsc : Wd w0 wr (sched blk 0) := hR
      clear hR hl16
      go_wp2_with fail
      go_loopg [7] 48 (fun gk i wr => ∃ k : Nat, i = .int .i64 k ∧ 16 ≤ k ∧ k + gk = 64 ∧ Wd w0 wr (sched blk (k - 16)))
      case atStart => exact ⟨16, rfl, by omega, rfl, hsc⟩
      case round =>
        obtain ⟨k, rfl, hk16, hk, hR⟩ := hrel
        by_cases hlt : k < 64
        · have hlen := sched_length blk (k - 16)
          have HRk := Lib.hid hR
          have c15 := hR.get (i := k - 15) (by omega)
          have c2 := hR.get (i := k - 2) (by omega)
          obtain ⟨X, hX⟩ : ∃ X, (sched blk (k - 16)).getD (k - 15) 0 = X := ⟨_, rfl⟩
          obtain ⟨Y, hY⟩ : ∃ Y, (sched blk (k - 16)).getD (k - 2) 0 = Y := ⟨_, rfl⟩
          rw [hX] at c15
          rw [hY] at c2
          have HX := Lib.hid hX
          have HY := Lib.hid hY
          clear hR hsc hlen hX hY
          unfold u at c15 c2
          go_wp2_with fail
          clear c15 c2
          obtain ⟨W2, rfl⟩ : ∃ W2 : World, W2 = wr := ⟨_, rfl⟩
          have hR := HRk.out
          clear HRk
          have hlen := sched_length blk (k - 16)
          have c16 := hR.get (i := k - 16) (by omega)
          have c7 := hR.get (i := k - 7) (by omega)
          have hp := fun m => (hR.drewN m).put (k := k) (by omega) hlt (nextW (sched blk (k - 16)) k)
          have hf := fun m => Row.frozen (hR.drewN m).row k
          have hv : ∀ m, ∃ v, (W2.drewN m).cell? ⟨w0.heap.size, k, none⟩ = some v := fun m => ⟨_, (Row.cell (hR.drewN m).row k).trans (List.getElem?_eq_getElem (by simp; omega))⟩
          have e1 : sched blk (k + 1 - 16) = sched blk (k - 16) ++ [nextW (sched blk (k - 16)) k] := by
            have : nextW (sched blk (k - 16)) k = nextW (sched blk (k - 16)) (16 + (k - 16)) := by rw [show 16 + (k - 16) = k by omega]
            rw [this, show k + 1 - 16 = (k - 16) + 1 by omega]; rfl
          rw [← e1] at hp
          have hn : nextW (sched blk (k - 16)) k = (sched blk (k - 16)).getD (k - 16) 0 + s0 ((sched blk (k - 16)).getD (k - 15) 0) + (sched blk (k - 16)).getD (k - 7) 0 + s1 ((sched blk (k - 16)).getD (k - 2) 0) := rfl
          rw [hn, HX.out, HY.out] at hp
          generalize (sched blk (k - 16)).getD (k - 16) 0 = A at *
          generalize (sched blk (k - 16)).getD (k - 7) 0 = Z at *
          have q3 := shr_lit3 X
          have q10 := shr_lit10 Y
          have HP := Lib.hid hp
          have HF := Lib.hid hf
          have HV := Lib.hid hv
          clear hp hf hv e1 hR hlen hn
          have r7 := fun w => ror_7 X w
          have r18 := fun w => ror_18 X w
          have r17 := fun w => ror_17 Y w
          have r19 := fun w => ror_19 Y w
          unfold u at c16 c7 r7 r18 r17 r19
          have R7 := Lib.hid r7
          have R18 := Lib.hid r18
          have R17 := Lib.hid r17
          have R19 := Lib.hid r19
          clear r7 r18 r17 r19
          have bX := un_bd X
          have bY := un_bd Y
          have s1 : IntKind.i64.wrap ((k : Int) - 16) = (k : Int) - 16 := IntWalk.i64_in _ (by omega)
          have s2 : IntKind.i64.wrap ((k : Int) - 7) = (k : Int) - 7 := IntWalk.i64_in _ (by omega)
          have s3 : (0 : Int) ≤ (k : Int) - 16 := by omega
          have s4 : (k : Int) - 16 < 64 := by omega
          have s5 : (0 : Int) ≤ (k : Int) - 7 := by omega
          have s6 : (k : Int) - 7 < 64 := by omega
          have s7 : ((k : Int) - 16).toNat = k - 16 := by omega
          have s8 : ((k : Int) - 7).toNat = k - 7 := by omega
          have s9 : (0 : Int) ≤ k := by omega
          have s10 : (k : Int) < 64 := by omega
          have s11 : (16 : Int) ≤ k := by omega
          have s12 : (7 : Int) ≤ k := by omega
          refine wp_region_ord 29 [(1, 0), (1, 1), (1, 2), (1, 3), (1, 4), (1, 5), (1, 7), (1, 10), (1, 11), (1, 14), (1, 15), (1, 16), (1, 17), (1, 19), (1, 21), (1, 24), (1, 25), (2, 6), (2, 8), (1, 9), (1, 12), (1, 13), (1, 18), (2, 20), (2, 22), (1, 23), (1, 26), (1, 27), (1, 28)] (fun w' => ∃ m, w' = W2.drewN m) (by kernel_rfl) (by kernel_rfl) (fun _ _ d _ _ h => by cases d <;> exact h) ⟨1, rfl⟩ ?_
          have hS : ∃ m, W2.drew = W2.drewN m := ⟨1, rfl⟩
          generalize hV : W2.drew = V at hS ⊢
          clear hV
          iterate 17
            refine wpOrd_take (v := ?_) rfl (by rfl) (fun w hSw => ?_) ?_
            rotate_left 1
            · obtain ⟨_, rfl⟩ := hSw
              go_simp
              with_reducible rfl
            simp only [Act.put, List.setIfInBounds_toArray, List.set_cons_zero, List.set_cons_succ]
          refine wpOrd_step rfl (fun K hK => ⟨by rfl, ?_⟩)
          go_simp
          go_at_call 199
          refine (R7.out _).mono ?_
          rintro e w1 ⟨rfl, q9, rfl⟩
          have hS1 : ∃ m, V.drewN q9 = W2.drewN m := by obtain ⟨q, rfl⟩ := hS; exact ⟨q + q9, World.drewN_drewN ..⟩
          refine hK _ _ hS1 ?_
          clear hK K hS
          have hS := hS1
          clear hS1
          generalize V.drewN q9 = V at hS ⊢
          try simp only [Act.put, List.setIfInBounds_toArray, List.set_cons_zero, List.set_cons_succ]
          refine wpOrd_step rfl (fun K hK => ⟨by rfl, ?_⟩)
          go_simp
          go_at_call 199
          refine (R18.out _).mono ?_
          rintro e w1 ⟨rfl, q9, rfl⟩
          have hS1 : ∃ m, V.drewN q9 = W2.drewN m := by obtain ⟨q, rfl⟩ := hS; exact ⟨q + q9, World.drewN_drewN ..⟩
          refine hK _ _ hS1 ?_
          clear hK K hS
          have hS := hS1
          clear hS1
          generalize V.drewN q9 = V at hS ⊢
          try simp only [Act.put, List.setIfInBounds_toArray, List.set_cons_zero, List.set_cons_succ]
          iterate 4
            refine wpOrd_take (v := ?_) rfl (by rfl) (fun w hSw => ?_) ?_
            rotate_left 1
            · obtain ⟨_, rfl⟩ := hSw
              go_simp
              with_reducible rfl
            simp only [Act.put, List.setIfInBounds_toArray, List.set_cons_zero, List.set_cons_succ]
          refine wpOrd_step rfl (fun K hK => ⟨by rfl, ?_⟩)
          go_simp
          go_at_call 199
          refine (R17.out _).mono ?_
          rintro e w1 ⟨rfl, q9, rfl⟩
          have hS1 : ∃ m, V.drewN q9 = W2.drewN m := by obtain ⟨q, rfl⟩ := hS; exact ⟨q + q9, World.drewN_drewN ..⟩
          refine hK _ _ hS1 ?_
          clear hK K hS
          have hS := hS1
          clear hS1
          generalize V.drewN q9 = V at hS ⊢
          try simp only [Act.put, List.setIfInBounds_toArray, List.set_cons_zero, List.set_cons_succ]
          refine wpOrd_step rfl (fun K hK => ⟨by rfl, ?_⟩)
          go_simp
          go_at_call 199
          refine (R19.out _).mono ?_
          rintro e w1 ⟨rfl, q9, rfl⟩
          have hS1 : ∃ m, V.drewN q9 = W2.drewN m := by obtain ⟨q, rfl⟩ := hS; exact ⟨q + q9, World.drewN_drewN ..⟩
          refine hK _ _ hS1 ?_
          clear hK K hS
          have hS := hS1
          clear hS1
          generalize V.drewN q9 = V at hS ⊢
          try simp only [Act.put, List.setIfInBounds_toArray, List.set_cons_zero, List.set_cons_succ]
          iterate 4
            refine wpOrd_take (v := ?_) rfl (by rfl) (fun w hSw => ?_) ?_
            rotate_left 1
            · obtain ⟨_, rfl⟩ := hSw
              go_simp
              with_reducible rfl
            simp only [Act.put, List.setIfInBounds_toArray, List.set_cons_zero, List.set_cons_succ]
          refine wpOrd_nil ?_
          simp only [List.drop_succ_cons, List.drop_zero]
          obtain ⟨m, rfl⟩ := hS
          have hf := HF.out m
          obtain ⟨v0, hv0⟩ := HV.out m
          clear s1 s2 s3 s4 s5 s6 s7 s8 s11 s12
          go_wp2_with fail
          go_roundg (gk - 1)
          case measure => omega
          case rel =>
            refine ⟨k + 1, by go_num, by omega, by omega, ?_⟩
            rw [xor_n, xor_n, xor_n, xor_n, add_n4]
            exact HP.out m
        · obtain rfl : k = 64 := by omega
          have hsc : Wd w0 wr (sched blk 48) := hR
          clear hR
          have hn := fun w => refnumbers_any w
          have HN := Lib.hid hn
          have HSC := Lib.hid hsc
          clear hn hsc
          have hst := fun W => store64 W
          obtain ⟨wo, rfl⟩ : ∃ wo : World, wo = wr := ⟨_, rfl⟩
          go_upto_region 13 with (go_at_call 200; (with_reducible refine (HN.out _).mono ?_); rintro e w1 ⟨rfl, hb1⟩)
          clear hst
          have hT : Row (w1.alloc (.cells (numbersL.map u).toArray 230)) w1.heap.size 230 (numbersL.map u) := Row.new w1 _ _
          have hB1 : Below wo.heap.size wo (w1.alloc (.cells (numbersL.map u).toArray 230)) := hb1.alloc hb1.size _
          have hzk : wo.heap.size ≤ w1.heap.size := hb1.size
          generalize w1.alloc (.cells (numbersL.map u).toArray 230) = W1 at *
          generalize w1.heap.size = kb at *
          have hzo := HSC.out.size
          have hS1 : Row W1 w.heap.size 205 (s.list.map u) := Row.keep (Row.keep HS.out (HSC.out.below.block _ (by have := HZ.out; omega))) (hB1.block _ (by have := HZ.out; omega))
          obtain ⟨c0, c1, c2, c3, c4, c5, c6, c7⟩ := st8 hS1
          have HT := Lib.hid hT
          have HB1 := Lib.hid hB1
          have HS1 := Lib.hid hS1
          clear hT hB1 hS1 hb1 hzo
          generalize Value.agg (numbersL.map u).toArray = v78 at *
          go_quiet (fail)
          clear c0 c1 c2 c3 c4 c5 c6 c7
          go_wp2_with fail
          obtain ⟨V0, rfl⟩ : ∃ V0 : World, V0 = W1.drewN nq := ⟨_, rfl⟩
          go_loopg [11, 12, 13, 14, 15, 16, 17, 18, 19] 64 (fun gk a b c d e f g h i wx => (∃ m, wx = W1.drewN m) ∧ ∃ k : Nat, i = .int .i64 k ∧ k + gk = 64 ∧ a = u (rounds s (sched blk 48) k).a ∧ b = u (rounds s (sched blk 48) k).b ∧ c = u (rounds s (sched blk 48) k).c ∧ d = u (rounds s (sched blk 48) k).d ∧ e = u (rounds s (sched blk 48) k).e ∧ f = u (rounds s (sched blk 48) k).f ∧ g = u (rounds s (sched blk 48) k).g ∧ h = u (rounds s (sched blk 48) k).h)
          case atStart => exact ⟨⟨_, rfl⟩, 0, rfl, rfl, rfl, rfl, rfl, rfl, rfl, rfl, rfl, rfl⟩
          case round =>
            obtain ⟨⟨m, rfl⟩, k, rfl, hk, rfl, rfl, rfl, rfl, rfl, rfl, rfl, rfl⟩ := hrel
            by_cases hlt : k < 64
            · have cw : (W1.drewN m).cell? ⟨w0.heap.size, k, none⟩ = some (u ((sched blk 48).getD k 0)) := (HB1.out.cell (p := ⟨w0.heap.size, k, none⟩) (by have := HSC.out.size; simp only []; omega)).trans (HSC.out.get (by rw [sched_length]; omega))
              have cn : (W1.drewN m).cell? ⟨kb, k, none⟩ = some (u (numbersL.getD k 0)) := num_at HT.out hlt
              have hnext : rounds s (sched blk 48) (k + 1) = round (rounds s (sched blk 48) k) (numbersL.getD k 0) ((sched blk 48).getD k 0) := rfl
              obtain ⟨K, hK⟩ : ∃ K, numbersL.getD k 0 = K := ⟨_, rfl⟩
              obtain ⟨X, hX⟩ : ∃ X, (sched blk 48).getD k 0 = X := ⟨_, rfl⟩
              obtain ⟨t, ht⟩ : ∃ t, rounds s (sched blk 48) k = t := ⟨_, rfl⟩
              rw [hK] at cn hnext
              rw [hX] at cw hnext
              rw [ht] at hnext ⊢
              have HN := Lib.hid hnext
              obtain ⟨ta, tb, tc, td, te, tf, tg, th⟩ := t
              simp only []
              clear hK hX ht hnext
              have r6 := fun w => ror_6 te w
              have r11 := fun w => ror_11 te w
              have r25 := fun w => ror_25 te w
              have r2 := fun w => ror_2 ta w
              have r13 := fun w => ror_13 ta w
              have r22 := fun w => ror_22 ta w
              unfold u at cw cn r6 r11 r25 r2 r13 r22 ⊢
              have R6 := Lib.hid r6
              have R11 := Lib.hid r11
              have R25 := Lib.hid r25
              have R2 := Lib.hid r2
              have R13 := Lib.hid r13
              have R22 := Lib.hid r22
              clear r6 r11 r25 r2 r13 r22
              have hV : ∃ m', W1.drewN m = W1.drewN m' := ⟨_, rfl⟩
              generalize W1.drewN m = V at *
              have s9 : (0 : Int) ≤ k := by omega
              have s10 : (k : Int) < 64 := by omega
              go_wp2_with fail
              go_quiet ((first | (go_at_call 199; with_reducible exact Calls.quiet_of (R6.out _)) | (go_at_call 199; with_reducible exact Calls.quiet_of (R11.out _)) | (go_at_call 199; with_reducible exact Calls.quiet_of (R25.out _))))
              rw [not_if, xor_n, xor_n, and_n, and_n, xor_n, add_n4, add_n]
              clear cw cn s9 s10 R6 R11 R25
              generalize te_p : th + (rr te 6 ^^^ rr te 11 ^^^ rr te 25) + ((te &&& tf) ^^^ (~~~te &&& tg)) + K + X = p
              have HPp := Lib.hid te_p
              have hV2 : ∃ m', V.drewN nq = W1.drewN m' := by obtain ⟨q, rfl⟩ := hV; exact ⟨q + nq, World.drewN_drewN ..⟩
              clear te_p hV
              generalize V.drewN nq = V2 at *
              go_wp2_with (first
                | (go_at_call 199; (with_reducible refine (R2.out _).mono ?_); rintro e w1 ⟨rfl, q1, rfl⟩)
                | (go_at_call 199; (with_reducible refine (R13.out _).mono ?_); rintro e w1 ⟨rfl, q2, rfl⟩)
                | (go_at_call 199; (with_reducible refine (R22.out _).mono ?_); rintro e w1 ⟨rfl, q3, rfl⟩))
              have hE : round ⟨ta, tb, tc, td, te, tf, tg, th⟩ K X = ⟨p + ((rr ta 2 ^^^ rr ta 13 ^^^ rr ta 22) + ((ta &&& tb) ^^^ (ta &&& tc) ^^^ (tb &&& tc))), ta, tb, tc, td + p, te, tf, tg⟩ := by rw [← HPp.out, ch_ref, maj_ref]; rfl
              rw [xor_n, xor_n, and_n, and_n, and_n, xor_n, xor_n, add_n, add_n, add_n]
              generalize p + ((rr ta 2 ^^^ rr ta 13 ^^^ rr ta 22) + ((ta &&& tb) ^^^ (ta &&& tc) ^^^ (tb &&& tc))) = y at *
              rw [hE] at HN
              have hV3 : ∃ m', V2.drewN (q1 + q2 + q3) = W1.drewN m' := by obtain ⟨q, rfl⟩ := hV2; exact ⟨_, World.drewN_drewN ..⟩
              go_roundg (gk - 1)
              case measure => omega
              case rel => exact ⟨hV3, k + 1, by go_num, by omega, by rw [HN.out]; rfl, by rw [HN.out]; rfl, by rw [HN.out]; rfl, by rw [HN.out]; rfl, by rw [HN.out]; rfl, by rw [HN.out]; rfl, by rw [HN.out]; rfl, by rw [HN.out]; rfl⟩
            · obtain rfl : k = 64 := by omega
              have hab : absorb s blk = s.add (rounds s (sched blk 48) 64) := rfl
              generalize rounds s (sched blk 48) 64 = t at *
              have HAB := Lib.hid hab
              clear hab
              have hS5 : Row (W1.drewN m) w.heap.size 205 (s.list.map u) := HS1.out
              have hR5 : Row (W1.drewN m) (w.heap.size + 1) 205 (List.replicate 8 (.int .u32 0)) := Row.keep (Row.keep HR.out (HSC.out.below.block _ (by have := HZ.out; omega))) (HB1.out.block _ (by have := HZ.out; have := HSC.out.size; omega))
              have hB5 : Below w.heap.size w (W1.drewN m) := by
                have h1 := HB0.out.trans (HSC.out.below.mono (by have := HZ.out; omega))
                have h2 := h1.trans (HB1.out.mono (by have := HSC.out.size; have := HZ.out; omega))
                exact ⟨h2.os, h2.tape, h2.output, h2.size, h2.block⟩
              obtain ⟨c0, c1, c2, c3, c4, c5, c6, c7⟩ := st8 hS5
              have f0 := Row.frozen hR5 0
              have f1 := Row.frozen hR5 1
              have f2 := Row.frozen hR5 2
              have f3 := Row.frozen hR5 3
              have f4 := Row.frozen hR5 4
              have f5 := Row.frozen hR5 5
              have f6 := Row.frozen hR5 6
              have f7 := Row.frozen hR5 7
              have d0 : (W1.drewN m).cell? ⟨w.heap.size + 1, 0, none⟩ = some (.int .u32 0) := Row.cell hR5 0
              have d1 : (W1.drewN m).cell? ⟨w.heap.size + 1, 1, none⟩ = some (.int .u32 0) := Row.cell hR5 1
              have d2 : (W1.drewN m).cell? ⟨w.heap.size + 1, 2, none⟩ = some (.int .u32 0) := Row.cell hR5 2
              have d3 : (W1.drewN m).cell? ⟨w.heap.size + 1, 3, none⟩ = some (.int .u32 0) := Row.cell hR5 3
              have d4 : (W1.drewN m).cell? ⟨w.heap.size + 1, 4, none⟩ = some (.int .u32 0) := Row.cell hR5 4
              have d5 : (W1.drewN m).cell? ⟨w.heap.size + 1, 5, none⟩ = some (.int .u32 0) := Row.cell hR5 5
              have d6 : (W1.drewN m).cell? ⟨w.heap.size + 1, 6, none⟩ = some (.int .u32 0) := Row.cell hR5 6
              have d7 : (W1.drewN m).cell? ⟨w.heap.size + 1, 7, none⟩ = some (.int .u32 0) := Row.cell hR5 7
              generalize W1.drewN m = V at *
              have HR5 := Lib.hid hR5
              have HB5 := Lib.hid hB5
              clear hS5 hR5 hB5
              unfold u
              go_wp2_with fail
              rw [add_n, add_n, add_n, add_n, add_n, add_n, add_n, add_n]
              have hRf : Row ((((((((V.setCell ⟨w.heap.size + 1, 0, none⟩ (.int .u32 (un (s.a + t.a)))).setCell ⟨w.heap.size + 1, 1, none⟩ (.int .u32 (un (s.b + t.b)))).setCell ⟨w.heap.size + 1, 2, none⟩ (.int .u32 (un (s.c + t.c)))).setCell ⟨w.heap.size + 1, 3, none⟩ (.int .u32 (un (s.d + t.d)))).setCell ⟨w.heap.size + 1, 4, none⟩ (.int .u32 (un (s.e + t.e)))).setCell ⟨w.heap.size + 1, 5, none⟩ (.int .u32 (un (s.f + t.f)))).setCell ⟨w.heap.size + 1, 6, none⟩ (.int .u32 (un (s.g + t.g)))).setCell ⟨w.heap.size + 1, 7, none⟩ (.int .u32 (un (s.h + t.h)))) (w.heap.size + 1) 205 ((s.add t).list.map u) := (Row.store (Row.store (Row.store (Row.store (Row.store (Row.store (Row.store (Row.store HR5.out 0 _) 1 _) 2 _) 3 _) 4 _) 5 _) 6 _) 7 _)
              have hBf : Below w.heap.size w ((((((((V.setCell ⟨w.heap.size + 1, 0, none⟩ (.int .u32 (un (s.a + t.a)))).setCell ⟨w.heap.size + 1, 1, none⟩ (.int .u32 (un (s.b + t.b)))).setCell ⟨w.heap.size + 1, 2, none⟩ (.int .u32 (un (s.c + t.c)))).setCell ⟨w.heap.size + 1, 3, none⟩ (.int .u32 (un (s.d + t.d)))).setCell ⟨w.heap.size + 1, 4, none⟩ (.int .u32 (un (s.e + t.e)))).setCell ⟨w.heap.size + 1, 5, none⟩ (.int .u32 (un (s.f + t.f)))).setCell ⟨w.heap.size + 1, 6, none⟩ (.int .u32 (un (s.g + t.g)))).setCell ⟨w.heap.size + 1, 7, none⟩ (.int .u32 (un (s.h + t.h)))) := ((((((((HB5.out.setCell (by simp only []; omega) _).setCell (by simp only []; omega) _).setCell (by simp only []; omega) _).setCell (by simp only []; omega) _).setCell (by simp only []; omega) _).setCell (by simp only []; omega) _).setCell (by simp only []; omega) _).setCell (by simp only []; omega) _)
              generalize ((((((((V.setCell ⟨w.heap.size + 1, 0, none⟩ (.int .u32 (un (s.a + t.a)))).setCell ⟨w.heap.size + 1, 1, none⟩ (.int .u32 (un (s.b + t.b)))).setCell ⟨w.heap.size + 1, 2, none⟩ (.int .u32 (un (s.c + t.c)))).setCell ⟨w.heap.size + 1, 3, none⟩ (.int .u32 (un (s.d + t.d)))).setCell ⟨w.heap.size + 1, 4, none⟩ (.int .u32 (un (s.e + t.e)))).setCell ⟨w.heap.size + 1, 5, none⟩ (.int .u32 (un (s.f + t.f)))).setCell ⟨w.heap.size + 1, 6, none⟩ (.int .u32 (un (s.g + t.g)))).setCell ⟨w.heap.size + 1, 7, none⟩ (.int .u32 (un (s.h + t.h)))) = Vf at *
              have hinf : (Tryz.prog.info? 205).map (·.size) = some 8 := by kernel_rfl
              exact bodyPost_ret (v := .agg ((s.add t).list.map u).toArray) (results_cell_row (g := w.heap.size + 1) (t := 205) (fr := (0, 0)) rfl _ Vf _ _ rfl hRf Tryz.underlying205 rfl (by rw [hinf]; rfl)) rfl ⟨by rw [HAB.out], hBf⟩
end Go.Proofs.YthckledagggoiaaGreatDoor

namespace Go.Proofs.YthckledagggoiaaGreatDoor
open Go.RowKit Fk Sha
/-! The reference's end of the bytes. -/
/-- one byte more, out of a block of one cell -/
theorem one_slB (w : World) (c : B) (z : Value) (hz : z = bv c) (g : Nat) (hg : g = w.heap.size) : SlB (w.alloc (.cells #[z] 5)) (w.heap.size + 1) (.slice (some ⟨g, 0, none⟩) 1 1) [c] ∧ capB (.slice (some ⟨g, 0, none⟩) 1 1) := by
  subst hg
  subst hz
  refine ⟨?_, _, _, _, rfl, Nat.le_refl _, by omega, fun h => by cases h⟩
  exact Row.sl (c := 1) (m := 1) (enc := encB) (l := [c]) (Row.new w _ _) (fun _ => rfl) (by simp) (Nat.lt_succ_self _)
theorem own_emptyB (W : World) : (W.alloc (.cells #[] 5)).ownsRow W.heap.size 5 1 (.slice (some ⟨W.heap.size, 0, none⟩) 0 0) 0 (([] : List B).map bv) :=
  ⟨rfl, .inr ⟨W.heap.size, 0, #[], rfl, Nat.le_refl _, Row.new W _ [], Nat.le_refl _, by unfold maxLen; omega, rfl, rfl⟩⟩
theorem zeros_le (n : Nat) : zeros n ≤ 63 := by unfold zeros; omega
theorem zeros_no {n j : Nat} (h : j < zeros n) : (n + 1 + j) % 64 ≠ 56 := by unfold zeros at h; omega
theorem zeros_yes (n : Nat) : (n + 1 + zeros n) % 64 = 56 := by unfold zeros; omega
set_option maxRecDepth 100000 in
set_option maxHeartbeats 4000000 in
theorem padded_any (l : List B) (v : Value) (w : World) (h : SlB w w.heap.size v l) (hc : capB v) (hl : l.length ≤ 1099511627776) :
    Calls Tryz.prog 173 #[v] w fun e w' => ∃ v', e = .returned v' ∧ SlB w' w'.heap.size v' (padL l) ∧ capB v' ∧ (∀ a n c, v' = .slice (some a) n c → w.heap.size ≤ a.block) ∧ Below w.heap.size w w' := by
  have HS := Lib.hid h
  have HC := Lib.hid hc
  obtain ⟨A, n, c, rfl, _⟩ := hc
  obtain rfl : n = l.length := by obtain ⟨_, _, _, hv, _⟩ := h; injection hv
  clear h
  go_enter Tryz.func173, Tryz.ntmps173
  have HO := Lib.hid (own_emptyB w)
  have HE := Lib.hid (HS.out.below ((Below.refl w.heap.size w).alloc (Nat.le_refl _) (.cells #[] 5)))
  go_upto_region 2 with (first
    | (at_builtin; refine wpList_app rfl _ _ rfl w.heap.size _ 0 [] rfl HO.out _ rfl l _ HE.out HC.out (by omega) (by simp) ?_; intro v1 w2 hown2 hg2)
    | (at_builtin; refine wpList_app rfl _ _ rfl w.heap.size v1 (0 + l.length) ([] ++ l) rfl (hown2.alloc _) _ rfl [0x80#8] _ (one_slB w2 0x80#8 _ rfl _ rfl).1 (one_slB w2 0x80#8 _ rfl _ rfl).2 (by simp; omega) (by have := hg2.size; simp at this ⊢; omega) ?_; intro v2 w3 hown3 hg3))
  have hB2 : Below w.heap.size w w2 := ((Below.refl w.heap.size w).alloc (Nat.le_refl _) _).grown hg2 (by simp) (fun r e => by cases e; exact Nat.le_refl _)
  have hB3 : Below w.heap.size w w3 := (hB2.alloc hB2.size _).grown hg3 (by have := hB2.size; simp; omega) (fun r e => (hown2.lt r e).1)
  have hw3 : w3.ownsRow w.heap.size 5 1 v2 (l.length + 1 + 0) ((l ++ 0x80#8 :: List.replicate 0 0#8).map bv) := by simpa using hown3
  clear HO HE hown2 hg2 hown3 hg3 hB2
  go_loopg [3] (zeros l.length) (fun gk v wr => ∃ j : Nat, j + gk = zeros l.length ∧ wr.ownsRow w.heap.size 5 1 v (l.length + 1 + j) ((l ++ 0x80#8 :: List.replicate j 0#8).map bv) ∧ Below w.heap.size w wr)
  case atStart => exact ⟨0, by omega, hw3, hB3⟩
  case round =>
    clear hw3 hB3
    obtain ⟨j, hj, hown, hB⟩ := hrel
    have hz63 := zeros_le l.length
    obtain ⟨_, A', N, C, rfl, hNC, hC, _⟩ := own_slB hown (by simp; omega) (by simp; omega)
    obtain rfl : N = l.length + 1 + j := by
      rcases hown.2 with ⟨e, h0⟩ | ⟨g, cap, cur, e, _⟩
      · cases e; omega
      · injection e
    by_cases hlt : j < zeros l.length
    · have hno : (((l.length + 1 + j : Nat) : Int) % 64 != 56) = true := by
        have := zeros_no hlt
        rw [bne_iff_ne]; omega
      have HO := Lib.hid hown
      have HB := Lib.hid hB
      have hsz := hB.size
      have hon := one_slB wr 0#8 (.int .u8 0) rfl wr.heap.size rfl
      have HN := Lib.hid hon
      clear hown hB hon
      obtain ⟨M, hM⟩ : ∃ M, l.length + 1 + j = M := ⟨_, rfl⟩
      rw [hM] at hno HO
      rw [hM]
      have HM := Lib.hid hM
      have hMb : M ≤ 1099511627841 := by omega
      clear hM
      go_wp2_with (at_builtin; refine wpList_app rfl _ _ rfl w.heap.size _ M _ rfl (HO.out.alloc _) _ rfl [0#8] _ HN.out.1 HN.out.2 (by simp; omega) (by simp; omega) ?_; intro v3 w4 hown3 hg3)
      go_roundg (gk - 1)
      case measure => omega
      case rel =>
        refine ⟨j + 1, by omega, ?_, (HB.out.alloc hsz _).grown hg3 (by simp; omega) (fun r e => (HO.out.lt r e).1)⟩
        have e1 : l ++ 0x80#8 :: List.replicate (j + 1) 0#8 = (l ++ 0x80#8 :: List.replicate j 0#8) ++ [0#8] := by rw [List.append_assoc, List.cons_append, List.replicate_succ']
        rw [e1, ← Nat.add_assoc, HM.out]
        exact hown3
    · obtain rfl : j = zeros l.length := by omega
      have hyes : (((l.length + 1 + zeros l.length : Nat) : Int) % 64 != 56) = false := by
        have := zeros_yes l.length
        rw [bne_eq_false_iff_eq]; omega
      have HO := Lib.hid hown
      have HB := Lib.hid hB
      clear hown hB
      obtain ⟨M, hM⟩ : ∃ M, l.length + 1 + zeros l.length = M := ⟨_, rfl⟩
      rw [hM] at hyes HO
      rw [hM]
      have HM := Lib.hid hM
      have hMb : M ≤ 1099511627841 := by omega
      clear hM hz63
      have hl8 : (0 : Int) ≤ (l.length : Int) * 8 := by omega
      go_wp2_with fail
      have hx : 8 * l.length % 2 ^ 64 = l.length * 8 := by rw [Nat.mod_eq_of_lt (by omega)]; omega
      have hpad : padL l = (l ++ 0x80#8 :: List.replicate (zeros l.length) 0#8) ++ be 8 (l.length * 8) := by unfold padL; rw [hx, List.append_assoc, List.cons_append]
      have HPAD := Lib.hid hpad
      clear hx hpad
      generalize (l ++ 0x80#8 :: List.replicate (zeros l.length) 0#8) = L0 at *
      have hstart : wr.ownsRow w.heap.size 5 1 (.slice A' M C) (M + 0) ((L0 ++ (be 8 (l.length * 8)).take 0).map bv) := by rw [List.take_zero, List.append_nil]; exact HO.out
      have hB0 := HB.out
      clear HO HB
      go_loopg [3, 5] 8 (fun gk v i wr => ∃ k : Nat, i = .int .i64 (7 - (k : Int)) ∧ k + gk = 8 ∧ wr.ownsRow w.heap.size 5 1 v (M + k) ((L0 ++ (be 8 (l.length * 8)).take k).map bv) ∧ Below w.heap.size w wr)
      case atStart => exact ⟨0, rfl, rfl, hstart, hB0⟩
      case round =>
        clear hstart hB0
        obtain ⟨k, rfl, hk, hown, hB⟩ := hrel
        by_cases hlt : k < 8
        · obtain ⟨i, hi⟩ : ∃ i : Nat, (7 : Int) - k = i := ⟨7 - k, by omega⟩
          have hi2 : i = 7 - k := by omega
          rw [hi]
          have hbe : (be 8 (l.length * 8)).take (k + 1) = (be 8 (l.length * 8)).take k ++ [BitVec.ofNat 8 (l.length * 8 / 2 ^ (8 * i))] := by
            rw [List.take_succ_eq_append_getElem (by rw [be_length]; exact hlt)]
            have := be_getD (n := 8) (x := l.length * 8) hlt
            rw [List.getElem?_eq_getElem (by rw [be_length]; exact hlt)] at this
            rw [Option.some.inj this, hi2, show 8 - 1 - k = 7 - k by omega]
          have hz : Value.int .u8 ((l.length : Int) * 8 / 2 ^ (8 * i) % 256) = bv (BitVec.ofNat 8 (l.length * 8 / 2 ^ (8 * i))) := by
            unfold bv bn
            rw [BitVec.toNat_ofNat, Int.natCast_emod, Int.natCast_ediv, Int.natCast_pow, Int.natCast_mul]
            rfl
          have hx1 : (l.length : Int) * 8 < 18446744073709551616 := by omega
          generalize (l.length : Int) * 8 = X at *
          have hon := one_slB wr _ _ hz wr.heap.size rfl
          have hsz := hB.size
          have HO := Lib.hid hown
          have HB := Lib.hid hB
          have HN := Lib.hid hon
          have HBE := Lib.hid hbe
          have HI := Lib.hid hi
          have hib : i < 8 := by omega
          clear hown hB hon hbe hi hi2 hz
          go_wp2_with (at_builtin; refine wpList_app rfl _ _ rfl w.heap.size _ (M + k) _ rfl (HO.out.alloc _) _ rfl [BitVec.ofNat 8 (l.length * 8 / 2 ^ (8 * i))] _ HN.out.1 HN.out.2 (by simp; omega) (by simp; omega) ?_; intro v3 w4 hown3 hg3)
          go_roundg (gk - 1)
          case measure => omega
          case rel =>
            refine ⟨k + 1, ?_, by omega, ?_, (HB.out.alloc hsz _).grown hg3 (by simp; omega) (fun r e => (HO.out.lt r e).1)⟩
            · rw [← HI.out]; congr 1; omega
            · rw [HBE.out, ← List.append_assoc]
              exact hown3
        · obtain rfl : k = 8 := by omega
          rw [List.take_of_length_le (by rw [be_length]; omega), ← HPAD.out] at hown
          obtain ⟨q1, q2⟩ := own_slB hown (by rw [padL_length]; have := HM.out; omega) (by rw [padL_length]; have := zeros_le l.length; omega)
          have q3 : ∀ a n c, u3 = .slice (some a) n c → w.heap.size ≤ a.block := fun a n c h => (hown.lt a.block (by rw [h]; rfl)).1
          have Q3 := Lib.hid q3
          have Q1 := Lib.hid q1
          have Q2 := Lib.hid q2
          have HB := Lib.hid hB
          clear hown hB q1 q2 q3
          go_wp2_with fail
          go_ret
          exact ⟨_, rfl, Q1.out, Q2.out, Q3.out, HB.out⟩
end Go.Proofs.YthckledagggoiaaGreatDoor

namespace Go.Proofs.YthckledagggoiaaGreatDoor
set_option linter.unusedSimpArgs false
open Go.RowKit Fk Sha
/-! The reference's hash of bytes. -/
/-- the reference's own blocks: the result, the state -/
structure Sr (w W : World) (s : St) : Prop where
  below : Below w.heap.size w W
  size : w.heap.size + 2 ≤ W.heap.size
  d : Row W w.heap.size 34 (List.replicate 32 (.int .u8 0))
  s : Row W (w.heap.size + 1) 205 (s.list.map u)
theorem state_at {W : World} {g : Nat} {t : TypeId} {s : St} (h : Row W g t (s.list.map u)) {q : Nat} (hq : q < 8) : W.cell? ⟨g, q, none⟩ = some (u (s.list.getD q 0)) := by
  rw [Row.cell h, List.getElem?_map, List.getD_eq_getElem?_getD, List.getElem?_eq_getElem (by simpa [St.list] using hq)]; rfl
theorem out_at (s : St) {q r : Nat} (hq : q < 8) (hr : r < 4) : (out s)[4 * q + r]? = some (BitVec.ofNat 8 ((s.list.getD q 0).toNat / 2 ^ (8 * (3 - r)))) := by
  have key : ∀ (t : List W) (q : Nat), q < t.length → (t.flatMap fun x => be 4 x.toNat)[4 * q + r]? = some (BitVec.ofNat 8 ((t.getD q 0).toNat / 2 ^ (8 * (3 - r)))) := by
    intro t
    induction t with
    | nil => intro q h; simp at h
    | cons x t ih =>
      intro q h
      rw [List.flatMap_cons]
      cases q with
      | zero =>
        rw [List.getElem?_append_left (by rw [be_length]; omega), Nat.mul_zero, Nat.zero_add, be_getD hr]
        rfl
      | succ q =>
        rw [List.getElem?_append_right (by rw [be_length]; omega), be_length, show 4 * (q + 1) + r - 4 = 4 * q + r by omega, ih q (by simpa using h)]
        rfl
  exact key s.list q (by simpa [St.list] using hq)
theorem out_byte (s : St) {q r : Nat} (hq : q < 8) (hr : r < 4) (D : Int) (hD : D = ((2 ^ (8 * (3 - r)) : Nat) : Int)) : bv ((out s).getD (4 * q + r) 0) = .int .u8 (un (s.list.getD q 0) / D % 256) := by
  rw [List.getD_eq_getElem?_getD, out_at s hq hr, hD]
  unfold bv bn un
  simp only [Option.getD_some]
  rw [BitVec.toNat_ofNat, Int.natCast_emod, Int.natCast_ediv]
  rfl
/-- the first i bytes of the result are laid -/
def outI (s : St) (i : Nat) : List Value := ((out s).take i).map bv ++ List.replicate (32 - i) (.int .u8 0)
theorem outI_length (s : St) {i : Nat} (h : i ≤ 32) : (outI s i).length = 32 := by
  unfold outI; rw [List.length_append, List.length_map, List.length_take, out_length, List.length_replicate]; omega
theorem outI_set (s : St) {i : Nat} (h : i < 32) : (outI s i).set i (bv ((out s).getD i 0)) = outI s (i + 1) := by
  unfold outI
  have hl : (out s).length = 32 := out_length s
  have e1 : (out s).take (i + 1) = (out s).take i ++ [(out s).getD i 0] := by
    rw [List.take_succ_eq_append_getElem (by omega), List.getD_eq_getElem?_getD, List.getElem?_eq_getElem (by omega)]; rfl
  obtain ⟨n, hn⟩ : ∃ n, 32 - i = n + 1 := ⟨31 - i, by omega⟩
  have hk : (((out s).take i).map bv).length = i := by rw [List.length_map, List.length_take]; omega
  rw [List.set_append_right _ _ (by omega), hk, Nat.sub_self, hn, List.replicate_succ, List.set_cons_zero, e1, List.map_append, show 32 - (i + 1) = n by omega, List.append_assoc]
  rfl
set_option maxRecDepth 100000 in
set_option maxHeartbeats 4000000 in
theorem refsum_any (l : List B) (v : Value) (w : World) (h : SlB w w.heap.size v l) (hc : capB v) (hl : l.length ≤ 1099511627776) :
    Calls Tryz.prog 156 #[v] w fun e w' => e = .returned (.agg ((sum l).map bv).toArray) ∧ Below w.heap.size w w' := by
  have HS := Lib.hid h
  have HC := Lib.hid hc
  clear h hc
  go_enter Tryz.func156, Tryz.ntmps156
  go_upto_region 2 with (fail)
  obtain ⟨W0, hW0⟩ : ∃ W0 : World, (w.alloc (.cells (List.replicate 32 (Value.int IntKind.u8 0)).toArray 34)).alloc (.cells (startS.list.map u).toArray 205) = W0 := ⟨_, rfl⟩
  have hSm : Sr w W0 startS := by
    rw [← hW0]
    exact ⟨((Below.refl _ w).alloc (Nat.le_refl _) _).alloc (by simp) _, by simp, Row.alloc (Row.new w _ _) _, row_at' (by simp) _ _⟩
  refine (show _ = W0 from hW0) ▸ ?_
  clear hW0
  have hp := padded_any l v W0 ((HS.out.below hSm.below).mono (by have := hSm.size; omega)) HC.out hl
  have HP := Lib.hid hp
  have HSm := Lib.hid hSm
  clear hp hSm
  go_upto_region 3 with (go_at_call 173; (with_reducible refine HP.out.mono ?_); rintro e W1 ⟨v', rfl, hv', hcv', hblkv, hb1⟩)
  obtain ⟨_, N, C, rfl, hNC, hC, _⟩ := hcv'
  have hN : N = (padL l).length := by obtain ⟨_, _, _, hv, _⟩ := hv'; injection hv
  have hpos : 0 < (padL l).length := by rw [padL_length]; omega
  obtain ⟨_, A2, c2, hv, hE⟩ := hv'
  obtain ⟨pb, po, rfl, hpb, hE⟩ := hE hpos
  cases hv
  have hpne0 : w.heap.size + 2 ≤ pb := by have := hblkv _ _ _ rfl; have h3 := HSm.out.size; simp only [] at this; omega
  clear hblkv
  have hcell : ∀ i, i < (padL l).length → W1.cell? ⟨pb, po + i, none⟩ = some (bv ((padL l).getD i default)) := fun i hi => CellsG.byte hE hi
  have hblk := padL_blocks l
  have hlen := padL_length l
  have hzl := zeros_le l.length
  have hS1 : Sr w W1 startS := ⟨HSm.out.below.trans (hb1.mono (by have := HSm.out.size; omega)), Nat.le_trans HSm.out.size hb1.size, Row.keep HSm.out.d (hb1.block _ (by have := HSm.out.size; omega)), Row.keep HSm.out.s (hb1.block _ (by have := HSm.out.size; omega))⟩
  have HCELL := Lib.hid hcell
  have hN64 : (padL l).length = 64 * ((padL l).length / 64) := hblk.1
  have hbig : (padL l).length ≤ 1099511627849 := by omega
  have hsum : sum l = out (run startS (padL l) ((padL l).length / 64)) := rfl
  have HSUM := Lib.hid hsum
  clear hsum hblk hlen hzl hE hcell hb1 HSm HP HS HC
  generalize padL l = P at *
  have HN64 := Lib.hid hN64
  clear hN64
  go_wp2_with fail
  go_loopg [5] (P.length / 64) (fun gk i wr => ∃ k : Nat, i = .int .i64 ((64 * k : Nat) : Int) ∧ k + gk = P.length / 64 ∧ Sr w wr (run startS P k) ∧ (∀ i, i < P.length → wr.cell? ⟨pb, po + i, none⟩ = some (bv (P.getD i default))) ∧ pb < wr.heap.size)
  case atStart => exact ⟨0, rfl, by omega, hS1, HCELL.out, hpb⟩
  case round =>
    clear hS1 hpb HCELL
    obtain ⟨k, rfl, hk, hSr, hcell, hpb⟩ := hrel
    obtain ⟨n, hn⟩ : ∃ n, 64 * k = n := ⟨_, rfl⟩
    by_cases hlt : n < P.length
    · have hn64 : n + 64 ≤ P.length := by have := HN64.out; omega
      have hz := hSr.size
      have hbl := fun (V : World) (hV : ∀ b, b < wr.heap.size → V.heap[b]? = wr.heap[b]?) (hs : wr.heap.size ≤ V.heap.size) => block_any (run startS P k) ((P.drop n).take 64) pb (po + n) (C - n) V (by simp; omega) (by omega) (by omega) (fun i hi => by
        rw [World.cell?_of_block (w := wr) (a := ⟨pb, po + n + i, none⟩) (hV _ hpb), Nat.add_assoc, hcell _ (by omega), List.getD_eq_getElem?_getD, List.getD_eq_getElem?_getD, List.getElem?_take_of_lt hi, List.getElem?_drop]) (by omega)
      have hnx : run startS P (k + 1) = absorb (run startS P k) ((P.drop n).take 64) := by rw [← hn, run]
      have e64 : 64 * (k + 1) = n + 64 := by omega
      rw [hn]
      have HNX := Lib.hid hnx
      have HBL := Lib.hid hbl
      have HSR := Lib.hid hSr
      have HCL := Lib.hid hcell
      have HK := Lib.hid hk
      have HE64 := Lib.hid e64
      generalize absorb (run startS P k) ((P.drop n).take 64) = σ at *
      generalize run startS P k = τ at *
      clear hbl hnx hSr hcell hn e64
      go_upto_region 6 with (fail)
      have s1 : IntKind.i64.wrap ((n : Int) + 64) = (n : Int) + 64 := IntWalk.i64_in _ (by omega)
      have s2 : (0 : Int) ≤ n := by omega
      have s3 : ((n : Int) + 64).toNat = n + 64 := by omega
      have s4 : (0 : Int) ≤ (n : Int) + 64 := by omega
      have s5 : n + 64 ≤ C := by omega
      have s6 : (n : Int) + 64 ≤ C := by omega
      have s7 : C ≠ n := by omega
      obtain ⟨wo, rfl⟩ : ∃ wo : World, wo = wr := ⟨_, rfl⟩
      refine wp_region_ord 7 [(1, 0), (1, 1), (1, 2), (1, 3), (1, 4), (1, 5), (2, 6)] (fun w' => Sr w w' τ) (by kernel_rfl) (by kernel_rfl) (fun _ _ d _ _ h => by cases d <;> exact h) ⟨HSR.out.below.drew, HSR.out.size, HSR.out.d, HSR.out.s⟩ ?_
      iterate 6
        refine wpOrd_take (v := ?_) rfl (by rfl) (fun w hSw => ?_) ?_
        rotate_left 1
        · obtain ⟨c0, c1, c2, c3, c4, c5, c6, c7⟩ := st8 hSw.s
          go_simp
          with_reducible rfl
        simp only [Act.put, List.setIfInBounds_toArray, List.set_cons_zero, List.set_cons_succ]
      refine wpOrd_step rfl (fun K hK => ⟨by rfl, ?_⟩)
      go_simp
      go_at_call 174
      refine (HBL.out wo.drew (fun _ _ => rfl) (Nat.le_refl _)).mono ?_
      rintro e w2 ⟨rfl, hb2⟩
      have hb2' : ∀ b, b < wo.heap.size → w2.heap[b]? = wo.heap[b]? := hb2.block
      have hsz2 : wo.heap.size ≤ w2.heap.size := hb2.size
      have hBe2 : Below w.heap.size w w2 := HSR.out.below.trans ⟨hb2.os, hb2.tape, hb2.output, hb2.size, fun b hb => hb2.block b (by have : wo.drew.heap.size = wo.heap.size := rfl; omega)⟩
      have hD2 : Row w2 w.heap.size 34 (List.replicate 32 (.int .u8 0)) := Row.keep HSR.out.d (hb2' _ (by omega))
      have hS2 : Row w2 (w.heap.size + 1) 205 (τ.list.map u) := Row.keep HSR.out.s (hb2' _ (by omega))
      refine hK _ _ ⟨hBe2, by omega, hD2, hS2⟩ ?_
      clear hK K
      refine wpOrd_nil ?_
      simp only [List.drop_succ_cons, List.drop_zero]
      have hinf : (Tryz.prog.info? 205).map (·.size) = some 8 := by kernel_rfl
      refine wpList_store_row rfl 205 (.tmp 3) (.tmp 23) rfl (w.heap.size + 1) (σ.list.map u).toArray rfl rfl 205 (τ.list.map u).toArray hS2 (by rw [hinf]; simp [St.list]) (by simp [St.list]) (by simp [St.list, Value.oneCell', u]) ?_
      have hSrN : Sr w (w2.setRow (w.heap.size + 1) (σ.list.map u).toArray) σ := ⟨below_setRow hBe2 (by omega) _, by simp; omega, Row.keep hD2 (setRow_other _ _ _ _ (by omega)), setRow_heap w2 _ _ _ _ _ hS2⟩
      have hclN : ∀ i, i < P.length → (w2.setRow (w.heap.size + 1) (σ.list.map u).toArray).cell? ⟨pb, po + i, none⟩ = some (bv (P.getD i default)) := fun i hi => by
        rw [cell_setRow_other _ _ _ _ (by simp only []; omega), World.cell?_of_block (w := wo) (a := ⟨pb, po + i, none⟩) (hb2' _ hpb)]
        exact HCL.out i hi
      have hpbN : pb < (w2.setRow (w.heap.size + 1) (σ.list.map u).toArray).heap.size := by simp; omega
      have H1 := Lib.hid hSrN
      have H2 := Lib.hid hclN
      have H3 := Lib.hid hpbN
      clear hSrN hclN hpbN hb2 hb2' hsz2 hBe2 hD2 hS2 hinf s1 s2 s3 s4 s6 s7
      generalize w2.setRow (w.heap.size + 1) (σ.list.map u).toArray = W9 at *
      generalize Value.agg (σ.list.map u).toArray = v23 at *
      go_wp2_with fail
      go_roundg (gk - 1)
      case measure => have := HK.out; have := HE64.out; omega
      case rel => exact ⟨k + 1, by rw [HE64.out]; go_num, by have := HK.out; have := HE64.out; omega, by rw [HNX.out]; exact H1.out, H2.out, H3.out⟩
    · have hkf : k = P.length / 64 := by have := HN64.out; omega
      have hσ : out (run startS P k) = sum l := by rw [hkf]; exact HSUM.out.symm
      rw [hn]
      generalize run startS P k = σ at *
      have Hσ := Lib.hid hσ
      have HSR := Lib.hid hSr
      clear hσ hSr hcell hn hkf hpb hk HN64 HSUM
      go_upto_region 7 with (fail)
      have hE0 : outI σ 0 = List.replicate 32 (.int .u8 0) := rfl
      have hRd : Row (wr.alloc (.cells (List.replicate 32 (Value.int .u8 0)).toArray 34)) wr.heap.size 34 (outI σ 0) := by rw [hE0]; exact Row.new wr _ _
      have hRs : Row (wr.alloc (.cells (List.replicate 32 (Value.int .u8 0)).toArray 34)) (w.heap.size + 1) 205 (σ.list.map u) := Row.alloc HSR.out.s _
      have hR0 : Row (wr.alloc (.cells (List.replicate 32 (Value.int .u8 0)).toArray 34)) w.heap.size 34 (List.replicate 32 (.int .u8 0)) := Row.alloc HSR.out.d _
      have hBd : Below w.heap.size w (wr.alloc (.cells (List.replicate 32 (Value.int .u8 0)).toArray 34)) := HSR.out.below.alloc HSR.out.below.size _
      have hzb : w.heap.size + 2 ≤ wr.heap.size := HSR.out.size
      refine wp_region_lit ?_
      refine Great.wpList_runTo rfl (some 24) rfl (.agg (List.replicate 32 (Value.int .u8 0)).toArray) wr (by kernel_rfl) ?_
      refine Great.wpList_runTo rfl (some 6) rfl (.pointer (some ⟨wr.heap.size, 0, none⟩)) (wr.alloc (.cells (List.replicate 32 (Value.int .u8 0)).toArray 34)) (by kernel_rfl) ?_
      refine wpList_store_row rfl 34 (.tmp 6) (.tmp 24) rfl wr.heap.size (List.replicate 32 (Value.int .u8 0)).toArray rfl rfl 34 (List.replicate 32 (Value.int .u8 0)).toArray (World.alloc_heap_new wr _) (by kernel_rfl) rfl (by kernel_rfl) ?_
      rw [setRow_new wr]
      generalize Value.agg (List.replicate 32 (Value.int .u8 0)).toArray = v24 at *
      generalize wr.alloc (.cells (List.replicate 32 (Value.int .u8 0)).toArray 34) = W1' at *
      generalize wr.heap.size = db at *
      have hix := fun (q : Nat) (hq : q < 8) (V : World) (hV : Row V (w.heap.size + 1) 205 (σ.list.map u)) => state_at hV hq
      have HIX := Lib.hid hix
      clear hix hE0 HSR hpne0 hpos hE hNC hbig
      go_wp2_with fail
      go_loopg [7] 32 (fun gk i wx => ∃ j : Nat, i = .int .i64 j ∧ j + gk = 32 ∧ Row wx db 34 (outI σ j) ∧ Row wx (w.heap.size + 1) 205 (σ.list.map u) ∧ Row wx w.heap.size 34 (List.replicate 32 (.int .u8 0)) ∧ Below w.heap.size w wx)
      case atStart => exact ⟨0, rfl, rfl, hRd, hRs, hR0, hBd⟩
      case round =>
        clear hRd hRs hR0 hBd
        obtain ⟨j, rfl, hj, hRd, hRs, hR0, hBd⟩ := hrel
        by_cases hlt : j < 32
        · obtain ⟨q, r, hqr, hq, hr⟩ : ∃ q r, j = 4 * q + r ∧ q < 8 ∧ r < 4 := ⟨j / 4, j % 4, by omega, by omega, by omega⟩
          have h1 : (j : Int) / 4 = q := by omega
          have h2 : (j : Int) % 4 = r := by omega
          have cq := HIX.out q hq wr hRs
          have fd := Row.frozen hRd j
          obtain ⟨v0, hv0⟩ : ∃ v, wr.cell? ⟨db, j, none⟩ = some v := ⟨_, (Row.cell hRd j).trans (List.getElem?_eq_getElem (by rw [outI_length _ (by omega)]; omega))⟩
          have hset := Row.store hRd j (bv ((out σ).getD j 0))
          rw [outI_set σ hlt] at hset
          have hset1 := Row.other hRs (p := ⟨db, j, none⟩) (by simp only []; omega) (bv ((out σ).getD j 0))
          have hset2 := Row.other hR0 (p := ⟨db, j, none⟩) (by simp only []; omega) (bv ((out σ).getD j 0))
          have hset3 := hBd.setCell (p := ⟨db, j, none⟩) (by simp only []; omega) (bv ((out σ).getD j 0))
          obtain ⟨b0, b1⟩ := un_bd (σ.list.getD q 0)
          rcases (show r = 0 ∨ r = 1 ∨ r = 2 ∨ r = 3 by omega) with rfl | rfl | rfl | rfl
          all_goals
            first
              | have hby := out_byte σ hq (r := 0) (by omega) 16777216 (by decide)
                rw [← hqr, Int.emod_eq_of_lt (by omega) (by omega)] at hby
              | have hby := out_byte σ hq (r := 1) (by omega) 65536 (by decide)
                rw [← hqr] at hby
              | have hby := out_byte σ hq (r := 2) (by omega) 256 (by decide)
                rw [← hqr] at hby
              | have hby := out_byte σ hq (r := 3) (by omega) 1 (by decide)
                rw [← hqr, Int.ediv_one] at hby
          all_goals
            rw [hby] at hset hset1 hset2 hset3
            unfold u at cq
            generalize un (σ.list.getD q 0) = X at *
            have HS1 := Lib.hid hset
            have HS2 := Lib.hid hset1
            have HS3 := Lib.hid hset2
            have HS4 := Lib.hid hset3
            have s9 : (0 : Int) ≤ q := by omega
            have s10 : (q : Int) < 8 := by omega
            clear hset hset1 hset2 hset3 hby hqr hRd hRs hR0 hBd
            go_wp2_with fail
            go_roundg (gk - 1)
            case measure => omega
            case rel => exact ⟨j + 1, by go_num, by omega, HS1.out, HS2.out, HS3.out, HS4.out⟩
        · obtain rfl : j = 32 := by omega
          have e32 : outI σ 32 = (out σ).map bv := by
            have hl : (out σ).length = 32 := out_length σ
            unfold outI; rw [List.take_of_length_le (by omega)]; simp
          rw [e32] at hRd
          clear hRs
          go_upto_region 12 with (fail)
          have hlen := out_length σ
          have hcs : ((out σ).map bv).toArray.size = 32 := by simp [hlen]
          have hinf : (Tryz.prog.info? 34).map (·.size) = some 32 := by kernel_rfl
          refine wp_region_lit ?_
          refine Go.wpList_load_row rfl 34 (.tmp 6) rfl db rfl 34 ((out σ).map bv).toArray (0, 0) _ hRd Tryz.underlying34 rfl (by rw [hcs]; exact hinf) ?_
          refine wpList_store_row rfl 34 (.tmp 2) (.tmp 41) rfl w.heap.size ((out σ).map bv).toArray rfl rfl 34 (List.replicate 32 (Value.int .u8 0)).toArray hR0 (by rw [hcs]; exact hinf) (by rw [hcs]; rfl) (by simp [Value.oneCell', bv]) ?_
          have hRf := setRow_heap wr w.heap.size _ ((out σ).map bv).toArray _ _ hR0
          have hBf := below_setRow hBd (Nat.le_refl _) ((out σ).map bv).toArray
          generalize wr.setRow w.heap.size ((out σ).map bv).toArray = Wf at *
          go_wp2_with fail
          exact bodyPost_ret (v := .agg ((out σ).map bv).toArray) (results_cell_row (g := w.heap.size) (t := 34) (fr := (0, 0)) rfl _ Wf _ _ rfl hRf Tryz.underlying34 rfl (by rw [hcs]; exact hinf)) rfl ⟨by rw [Hσ.out], hBf⟩
end Go.Proofs.YthckledagggoiaaGreatDoor

namespace Go.Proofs.YthckledagggoiaaGreatDoor
open Go.RowKit Fk Sha
/-! The reference's hashes under a tag, and numbers from hashes. -/
set_option maxRecDepth 100000 in
set_option maxHeartbeats 2000000 in
theorem reftagged_any (s : ByteArray) (l : List B) (v : Value) (w : World) (h : SlB w w.heap.size v l) (hc : capB v) (hl : l.length ≤ 1099511627000) (hs : s.size ≤ 1099511627000) :
    Calls Tryz.prog 139 #[.string s, v] w fun e w' => e = .returned (.agg ((tagged (sb s) l).map bv).toArray) ∧ Below w.heap.size w w' := by
  have HS := Lib.hid h
  have HC := Lib.hid hc
  obtain ⟨A, n, c, rfl, _⟩ := hc
  obtain rfl : n = l.length := by obtain ⟨_, _, _, hv, _⟩ := h; injection hv
  clear h
  go_enter Tryz.func139, Tryz.ntmps139
  go_upto_region 1 with (fail)
  obtain ⟨W0, hW0⟩ : ∃ W0 : World, w.alloc (.cells (List.replicate 32 (Value.int IntKind.u8 0)).toArray 34) = W0 := ⟨_, rfl⟩
  have hD0 : Row W0 w.heap.size 34 (List.replicate 32 (.int .u8 0)) := by rw [← hW0]; exact Row.new w _ _
  have hB0 : Below w.heap.size w W0 := by rw [← hW0]; exact (Below.refl _ w).alloc (Nat.le_refl _) _
  have hz0 : W0.heap.size = w.heap.size + 1 := by rw [← hW0]; simp
  refine (show _ = W0 from hW0) ▸ ?_
  clear hW0
  obtain ⟨V, W1, hrun, hV, hcV, hb1⟩ := str_conv s W0 hs
  have hD1 := Row.keep hD0 (hb1.block _ (by omega))
  have hB1 := hB0.trans (hb1.mono (by omega))
  have hs1 := refsum_any (sb s) V W1 hV hcV (by rw [sb_length]; omega)
  have hst := fun W => store32 (sum (sb s)) (sum_length _) W
  have HS1 := Lib.hid hs1
  clear hs1 hV hcV hD0 hB0
  go_upto_region 2 with (go_at_call 156; (with_reducible refine HS1.out.mono ?_); rintro e W2 ⟨rfl, hb2⟩)
  have hB2 := hB1.trans (hb2.mono hB1.size)
  have hD2 := Row.keep hD1 (hb2.block _ (Row.lt hD1))
  have hz2' := Row.lt hD2
  obtain ⟨W3, hW3⟩ : ∃ W3 : World, W2.alloc (.cells ((sum (sb s)).map bv).toArray 34) = W3 := ⟨_, rfl⟩
  have hB3 : Below w.heap.size w W3 := by rw [← hW3]; exact hB2.alloc hB2.size _
  have hD3 : Row W3 w.heap.size 34 (List.replicate 32 (.int .u8 0)) := by rw [← hW3]; exact Row.alloc hD2 _
  have hT3 : Row W3 W2.heap.size 34 ((sum (sb s)).map bv) := by rw [← hW3]; exact Row.new W2 _ _
  have hz3 : W3.heap.size = W2.heap.size + 1 := by rw [← hW3]; simp
  have hsl : SlB W3 W3.heap.size (.slice (some ⟨W2.heap.size, 0, none⟩) 32 32) (sum (sb s)) := by
    have := Row.sl (c := 32) (m := 1) (enc := encB) (l := sum (sb s)) (by rw [flat_b]; exact hT3) (fun _ => rfl) (by rw [sum_length]; omega) (show W2.heap.size < W3.heap.size by omega)
    rwa [sum_length] at this
  rw [hW3]
  have hsl1 := hsl.below ((Below.refl W3.heap.size W3).alloc (Nat.le_refl _) (.cells #[] 5))
  have hcap1 : capB (.slice (some ⟨W2.heap.size, 0, none⟩) 32 32) := ⟨_, _, _, rfl, Nat.le_refl _, by omega, fun h => by cases h⟩
  have HSL := Lib.hid hsl1
  have ho := own_emptyB W3
  rw [hz3] at ho
  have HO := Lib.hid ho
  have HB3 := Lib.hid hB3
  have HD3 := Lib.hid hD3
  have hlen32 := sum_length (sb s)
  have HLEN := Lib.hid hlen32
  clear hsl hsl1 hT3 hW3 hD1 hB1 hb1 hb2 hD2 hB2 hst HS1 hD3 hB3 hlen32
  clear ho
  go_wp2_with (first
    | (at_builtin; refine wpList_app rfl _ _ rfl (W2.heap.size + 1) _ 0 [] rfl HO.out _ rfl (sum (sb s)) _ HSL.out hcap1 (by rw [HLEN.out]; omega) (by simp; omega) ?_; intro v1 w4 hown4 hg4; have hB4 := (HB3.out.alloc HB3.out.size _).grown hg4 (by have := HB3.out.size; simp; omega) (fun r e => by have := (HO.out.lt r e).1; have := HB3.out.size; omega); have hsl2 := HS.out.below hB4; have HO4 := Lib.hid hown4; have HSL4 := Lib.hid hsl2; have HB4 := Lib.hid hB4; have hW4 : W2.heap.size + 1 ≤ w4.heap.size := (by have := hg4.size; simp at this; omega); have hD4 := Row.keep HD3.out (show w4.heap[w.heap.size]? = W3.heap[w.heap.size]? from (hg4.block _ (by simp; omega) (fun e => by have := (HO.out.lt _ e.symm).1; omega)).trans (Below.heap_alloc W3 _ _ (by omega))); have HD4 := Lib.hid hD4; clear hown4 hsl2 hB4 hg4 hD4)
    | (at_builtin; refine wpList_app rfl _ _ rfl (W2.heap.size + 1) v1 (0 + (sum (sb s)).length) ([] ++ sum (sb s)) rfl HO4.out _ rfl l _ HSL4.out HC.out (by rw [HLEN.out]; omega) hW4 ?_; intro v2 w5 hown5 hg5; have hB5 := HB4.out.grown hg5 HB4.out.size (fun r e => by have := (HO4.out.lt r e).1; omega); have hD5 := Row.keep HD4.out (hg5.block _ (Row.lt HD4.out) (fun e => by have := (HO4.out.lt _ e.symm).1; omega)); have hq := own_slB hown5 (by simp only [List.nil_append, List.length_append]; omega) (by simp only [List.nil_append, List.length_append]; rw [HLEN.out]; omega); have hs5 := refsum_any ([] ++ sum (sb s) ++ l) v2 w5 hq.1 hq.2 (by simp only [List.nil_append, List.length_append]; rw [HLEN.out]; omega); rw [List.nil_append] at hs5; have HS5 := Lib.hid hs5; have HB5 := Lib.hid hB5; have HD5 := Lib.hid hD5; clear hs5 hq hown5 hg5 hB5 hD5))
  refine HS5.out.mono ?_
  rintro e W6 ⟨rfl, hb6⟩
  have hB6 := HB5.out.trans (hb6.mono HB5.out.size)
  have hD6 := Row.keep HD5.out (hb6.block _ (Row.lt HD5.out))
  have hst6 := store_old (sum (sum (sb s) ++ l)) (sum_length _) hD6
  have hR6 : Row (W6.setRow w.heap.size ((sum (sum (sb s) ++ l)).map bv).toArray) w.heap.size 34 ((sum (sum (sb s) ++ l)).map bv) := setRow_heap W6 _ _ _ _ _ hD6
  have hB7 := below_setRow hB6 (Nat.le_refl _) ((sum (sum (sb s) ++ l)).map bv).toArray
  generalize W6.setRow w.heap.size ((sum (sum (sb s) ++ l)).map bv).toArray = W7 at *
  have HR6 := Lib.hid hR6
  have HB6 := Lib.hid hB7
  clear hb6 hB6 hD6 hR6 hB7 hrun hz0 hz3 HS5 HO HSL HB3 HD3 HLEN HO4 HSL4 HB4 hW4 HD4 HB5 HD5 hcap1
  have hdl : (sum (sum (sb s) ++ l)).length = 32 := sum_length _
  have hres : tagged (sb s) l = sum (sum (sb s) ++ l) := rfl
  generalize sum (sum (sb s) ++ l) = D at *
  generalize sum (sb s) = D2 at *
  have HRES := Lib.hid hres
  clear hres
  go_wp2_with fail
  have hinf : (Tryz.prog.info? 34).map (·.size) = some 32 := by kernel_rfl
  exact bodyPost_ret (v := .agg (D.map bv).toArray) (results_cell_row (g := w.heap.size) (t := 34) (fr := (0, 0)) rfl _ _ _ _ rfl HR6.out Tryz.underlying34 rfl (by rw [hinf]; simp [hdl])) rfl ⟨by rw [HRES.out], HB6.out⟩
end Go.Proofs.YthckledagggoiaaGreatDoor

namespace Go.Proofs.YthckledagggoiaaGreatDoor
open Go.RowKit Fk

set_option maxHeartbeats 400000 in
theorem mul_any (a b : Int) (w : World) :
    Calls Tryz.prog 114 #[.int .i64 a, .int .i64 b] w fun e w' => e = .returned (.tuple #[.int .i64 (mulC a b), .int .i64 (mulE a b)]) ∧ w = w' := by
  by_cases ha : vld a = true
  · by_cases hb : vld b = true
    · have l1 := vld_lo ha
      have l2 := vld_hi ha
      have l3 := vld_lo hb
      have l4 := vld_hi hb
      have e1 : mulC a b = a * b % 2147483579 := by simp [mulC, ha, hb]
      have e2 : mulE a b = 0 := by simp [mulE, ha, hb]
      rw [e1, e2]
      clear e1 e2
      have m1 : 0 ≤ a * b := Int.mul_nonneg (by omega) (by omega)
      have m2 : a * b ≤ 2147483579 * 2147483579 := Int.mul_le_mul (by omega) (by omega) (by omega) (by omega)
      go_enter Tryz.func114, Tryz.ntmps114
      go_wp2_with (go_at_call 59; refine (valid_any _ _).mono ?_; rintro e w' ⟨rfl, rfl⟩)
      go_ret2
      exact ⟨rfl, rfl⟩
    · have hb' : vld b = false := by simpa using hb
      have e1 : mulC a b = 0 := by simp [mulC, hb']
      have e2 : mulE a b = 90 := by simp [mulE, hb']
      rw [e1, e2]
      clear e1 e2 hb
      go_enter Tryz.func114, Tryz.ntmps114
      go_wp2_with (go_at_call 59; refine (valid_any _ _).mono ?_; rintro e w' ⟨rfl, rfl⟩)
      go_ret2
      exact ⟨rfl, rfl⟩
  · have ha' : vld a = false := by simpa using ha
    have e1 : mulC a b = 0 := by simp [mulC, ha']
    have e2 : mulE a b = 90 := by simp [mulE, ha']
    rw [e1, e2]
    clear e1 e2 ha
    go_enter Tryz.func114, Tryz.ntmps114
    go_wp2_with (go_at_call 59; refine (valid_any _ _).mono ?_; rintro e w' ⟨rfl, rfl⟩)
    go_ret2
    exact ⟨rfl, rfl⟩

end Go.Proofs.YthckledagggoiaaGreatDoor

namespace Go.Proofs.YthckledagggoiaaGreatDoor
open Go.RowKit Fk

set_option maxHeartbeats 400000 in
theorem refpower_nat (a n : Nat) (ha : a < 2147483579) (hn : n < 2147483579) (w : World) :
    Calls Tryz.prog 108 #[.int .i64 a, .int .i64 n] w fun e w' => e = .returned (.int .i64 ((a ^ n % 2147483579 : Nat) : Int)) ∧ w = w' := by
  go_enter Tryz.func108, Tryz.ntmps108
  go_wp2
  go_loopg [0, 1, 5] n (fun k x m c wr => w = wr ∧ ∃ (x' c' : Nat), x = .int .i64 x' ∧ m = .int .i64 k ∧ c = .int .i64 c' ∧ k < 2147483579 ∧ x' < 2147483579 ∧ c' < 2147483579 ∧ PInv a n c' x' k)
  case atStart => exact ⟨rfl, a, 1, rfl, rfl, rfl, hn, ha, by omega, PInv.start a n⟩
  case round =>
    obtain ⟨rfl, x', c', rfl, rfl, rfl, b1, b2, b3, hI⟩ := hrel
    have m1 : c' * x' ≤ 2147483579 * 2147483579 := Nat.mul_le_mul (by omega) (by omega)
    have m2 : x' * x' ≤ 2147483579 * 2147483579 := Nat.mul_le_mul (by omega) (by omega)
    have m3 : (c' : Int) * x' = ((c' * x' : Nat) : Int) := by simp
    have m4 : (x' : Int) * x' = ((x' * x' : Nat) : Int) := by simp
    have m5 : 0 ≤ (c' : Int) * x' := by omega
    have m6 : 0 ≤ (x' : Int) * x' := by omega
    have m7 : (c' : Int) * x' ≤ 2147483579 * 2147483579 := by omega
    have m8 : (x' : Int) * x' ≤ 2147483579 * 2147483579 := by omega
    by_cases hk : 0 < gk
    · by_cases ho : gk % 2 = 1
      · have hI2 := PInv.odd hI ho
        have t1 : ((gk : Int) % 2 == 1) = true := by simp; omega
        clear hI ho m3 m4
        go_wp2
        go_roundg (gk / 2)
        case measure => omega
        case rel => exact ⟨rfl, x' * x' % 2147483579, c' * x' % 2147483579, by go_num, by go_num, by go_num, by omega, Nat.mod_lt _ (by omega), Nat.mod_lt _ (by omega), hI2⟩
      · have hI2 := PInv.even hI ho
        have t1 : ((gk : Int) % 2 == 1) = false := by simp; omega
        clear hI ho m3 m4
        go_wp2
        go_roundg (gk / 2)
        case measure => omega
        case rel => exact ⟨rfl, x' * x' % 2147483579, c', by go_num, by go_num, rfl, by omega, Nat.mod_lt _ (by omega), by omega, hI2⟩
    · obtain rfl : gk = 0 := by omega
      have hI2 := PInv.done hI b3
      clear hI m3 m4
      go_wp2
      go_ret
      exact ⟨ret_int (by rw [hI2]), rfl⟩
theorem refpower_any (a n : Int) (h1 : 0 ≤ a) (h2 : a < 2147483579) (h3 : 0 ≤ n) (h4 : n < 2147483579) (w : World) :
    Calls Tryz.prog 108 #[.int .i64 a, .int .i64 n] w fun e w' => e = .returned (.int .i64 (pwr a n)) ∧ w = w' := by
  have := refpower_nat a.toNat n.toNat (by omega) (by omega) w
  rw [Int.toNat_of_nonneg h1, Int.toNat_of_nonneg h3] at this
  exact this

set_option maxHeartbeats 400000 in
theorem refvalid_any (x : Int) (w : World) :
    Calls Tryz.prog 50 #[.int .i64 x] w fun e w' => e = .returned (.bool (vld x)) ∧ w = w' := by
  by_cases h1 : 1 ≤ x
  · by_cases h2 : x < 2147483579
    · rw [vld_pow h1 h2]
      go_enter Tryz.func50, Tryz.ntmps50
      go_wp2_with (go_at_call 108; refine (refpower_any _ _ (by omega) (by omega) (by omega) (by omega) _).mono ?_; rintro e w' ⟨rfl, rfl⟩)
      go_ret
      exact ⟨rfl, rfl⟩
    · rw [vld_out (by omega)]
      go_enter Tryz.func50, Tryz.ntmps50
      go_wp2
      go_ret
      exact ⟨rfl, rfl⟩
  · rw [vld_out (by omega)]
    go_enter Tryz.func50, Tryz.ntmps50
    go_wp2
    go_ret
    exact ⟨rfl, rfl⟩

end Go.Proofs.YthckledagggoiaaGreatDoor

namespace Go.Proofs.YthckledagggoiaaGreatDoor
open Go.RowKit Fk

set_option maxHeartbeats 400000 in
theorem refmul_any (a b : Int) (w : World) :
    Calls Tryz.prog 15 #[.int .i64 a, .int .i64 b] w fun e w' => e = .returned (.tuple #[.int .i64 (mulC a b), .int .i64 (mulE a b)]) ∧ w = w' := by
  by_cases ha : vld a = true
  · by_cases hb : vld b = true
    · have l1 := vld_lo ha
      have l2 := vld_hi ha
      have l3 := vld_lo hb
      have l4 := vld_hi hb
      have e1 : mulC a b = a * b % 2147483579 := by simp [mulC, ha, hb]
      have e2 : mulE a b = 0 := by simp [mulE, ha, hb]
      rw [e1, e2]
      clear e1 e2
      have m1 : 0 ≤ a * b := Int.mul_nonneg (by omega) (by omega)
      have m2 : a * b ≤ 2147483579 * 2147483579 := Int.mul_le_mul (by omega) (by omega) (by omega) (by omega)
      go_enter Tryz.func15, Tryz.ntmps15
      go_wp2_with (go_at_call 50; refine (refvalid_any _ _).mono ?_; rintro e w' ⟨rfl, rfl⟩)
      go_ret2
      exact ⟨rfl, rfl⟩
    · have hb' : vld b = false := by simpa using hb
      have e1 : mulC a b = 0 := by simp [mulC, hb']
      have e2 : mulE a b = 90 := by simp [mulE, hb']
      rw [e1, e2]
      clear e1 e2 hb
      go_enter Tryz.func15, Tryz.ntmps15
      go_wp2_with (go_at_call 50; refine (refvalid_any _ _).mono ?_; rintro e w' ⟨rfl, rfl⟩)
      go_ret2
      exact ⟨rfl, rfl⟩
  · have ha' : vld a = false := by simpa using ha
    have e1 : mulC a b = 0 := by simp [mulC, ha']
    have e2 : mulE a b = 90 := by simp [mulE, ha']
    rw [e1, e2]
    clear e1 e2 ha
    go_enter Tryz.func15, Tryz.ntmps15
    go_wp2_with (go_at_call 50; refine (refvalid_any _ _).mono ?_; rintro e w' ⟨rfl, rfl⟩)
    go_ret2
    exact ⟨rfl, rfl⟩

set_option maxHeartbeats 400000 in
theorem exponent_any (n : Int) (w : World) :
    Calls Tryz.prog 148 #[.int .i64 n] w fun e w' => e = .returned (.int .i64 (n % 1073741789)) ∧ w = w' := by
  have t1 := Int.tmod_lt_of_pos n (show (0 : Int) < 1073741789 by omega)
  by_cases h : n.tmod 1073741789 < 0
  · have e1 : n.tmod 1073741789 + 1073741789 = n % 1073741789 := tmod_neg (by omega) h
    have t2 : -1073741789 < n.tmod 1073741789 := Int.lt_tmod_of_pos n (by omega)
    have H := Lib.hid e1
    clear e1
    go_enter Tryz.func148, Tryz.ntmps148
    go_wp2
    go_ret
    exact ⟨ret_int H.out, rfl⟩
  · have e1 : n.tmod 1073741789 = n % 1073741789 := tmod_pos (by omega) (by omega)
    have H := Lib.hid e1
    clear e1
    go_enter Tryz.func148, Tryz.ntmps148
    go_wp2
    all_goals go_ret
    all_goals exact ⟨ret_int (by first | exact H.out | omega), rfl⟩

set_option maxHeartbeats 400000 in
theorem refpow_any (a n : Int) (w : World) :
    Calls Tryz.prog 123 #[.int .i64 a, .int .i64 n] w fun e w' => e = .returned (.tuple #[.int .i64 (powC a n), .int .i64 (powE a)]) ∧ w = w' := by
  by_cases ha : vld a = true
  · have l1 := vld_lo ha
    have l2 := vld_hi ha
    have e1 : powC a n = pwr a (n % 1073741789) := by simp [powC, ha]
    have e2 : powE a = 0 := by simp [powE, ha]
    rw [e1, e2]
    clear e1 e2
    have n1 : 0 ≤ n % 1073741789 := by omega
    have n2 : n % 1073741789 < 1073741789 := by omega
    go_enter Tryz.func123, Tryz.ntmps123
    go_wp2_with (first | (go_at_call 50; refine (refvalid_any _ _).mono ?_; rintro e w' ⟨rfl, rfl⟩) | (go_at_call 148; refine (exponent_any _ _).mono ?_; rintro e w' ⟨rfl, rfl⟩) | (go_at_call 108; refine (refpower_any _ _ (by omega) (by omega) (by omega) (by omega) _).mono ?_; rintro e w' ⟨rfl, rfl⟩))
    go_ret2
    exact ⟨rfl, rfl⟩
  · have ha' : vld a = false := by simpa using ha
    have e1 : powC a n = 0 := by simp [powC, ha']
    have e2 : powE a = 90 := by simp [powE, ha']
    rw [e1, e2]
    clear e1 e2 ha
    go_enter Tryz.func123, Tryz.ntmps123
    go_wp2_with (go_at_call 50; refine (refvalid_any _ _).mono ?_; rintro e w' ⟨rfl, rfl⟩)
    go_ret2
    exact ⟨rfl, rfl⟩
end Go.Proofs.YthckledagggoiaaGreatDoor

namespace Go.Proofs.YthckledagggoiaaGreatDoor
open Go.RowKit Fk Sha
/-! The reference's numbers. -/
set_option maxRecDepth 100000 in
set_option maxHeartbeats 2000000 in
theorem refhash_any (s : ByteArray) (l : List B) (v : Value) (w : World) (h : SlB w w.heap.size v l) (hc : capB v) (hl : l.length ≤ 1099511627000) (hs : s.size ≤ 1099511627000) :
    Calls Tryz.prog 122 #[.string s, v] w fun e w' => e = .returned (.int .i64 (hashN (tagged (sb s) l))) ∧ Below w.heap.size w w' := by
  have ht := reftagged_any s l v w h hc hl hs
  have hlen := tagged_length (sb s) l
  obtain ⟨D, hD⟩ : ∃ D, tagged (sb s) l = D := ⟨_, rfl⟩
  rw [hD] at ht hlen ⊢
  have hst := fun W => store32 D hlen W
  have HT := Lib.hid ht
  have HL := Lib.hid hlen
  clear ht hD h hc hlen
  go_enter Tryz.func122, Tryz.ntmps122
  go_upto_region 2 with (go_at_call 139; (with_reducible refine HT.out.mono ?_); rintro e W1 ⟨rfl, hb1⟩)
  have hR2 : Row (W1.alloc (.cells (D.map bv).toArray 34)) W1.heap.size 34 (D.map bv) := Row.new W1 _ _
  have hB2 : Below w.heap.size w (W1.alloc (.cells (D.map bv).toArray 34)) := hb1.alloc hb1.size _
  generalize W1.alloc (.cells (D.map bv).toArray 34) = W2 at *
  generalize W1.heap.size = g at *
  have hcell : ∀ k, k < 8 → (D.map bv)[k]? = some (.int .u8 (if k = 0 then bn (D.getD 0 0) else (hb D k : Int))) := by
    intro k hk
    rw [List.getElem?_map, List.getElem?_eq_getElem (by rw [HL.out]; omega)]
    by_cases e : k = 0
    · subst e; rw [if_pos rfl, List.getD_eq_getElem?_getD, List.getElem?_eq_getElem (by rw [HL.out]; omega)]; rfl
    · rw [if_neg e]; unfold hb; rw [if_neg e, List.getD_eq_getElem?_getD, List.getElem?_eq_getElem (by rw [HL.out]; omega)]; rfl
  have d0 : W2.cell? ⟨g, 0, none⟩ = some (.int .u8 (bn (D.getD 0 0))) := (Row.cell hR2 0).trans (hcell 0 (by omega))
  obtain ⟨b0, b1⟩ := bn_bd (D.getD 0 0)
  have h1 : ((hnum D 1 : Nat) : Int) = bn (D.getD 0 0) % 128 := by
    show ((0 * 256 + hb D 0 : Nat) : Int) = _
    unfold hb bn; rw [if_pos rfl]; omega
  have HC := Lib.hid hcell
  have H2 := Lib.hid hR2
  have HB := Lib.hid hB2
  have H1 := Lib.hid h1
  generalize bn (D.getD 0 0) = x at *
  clear hR2 hB2 hcell hb1 HT hst h1
  go_wp2_with fail
  clear d0
  go_loopg [6, 7] 7 (fun gk n i wr => W2 = wr ∧ ∃ k : Nat, i = .int .i64 k ∧ 1 ≤ k ∧ k + gk = 8 ∧ n = .int .i64 (hnum D k : Int))
  case atStart => exact ⟨rfl, 1, rfl, by omega, rfl, by rw [← H1.out]⟩
  case round =>
    obtain ⟨rfl, k, rfl, hk1, hk, rfl⟩ := hrel
    by_cases hlt : k < 8
    · have dk := (Row.cell H2.out k).trans (HC.out k hlt)
      rw [if_neg (by omega)] at dk
      obtain ⟨q0, q1⟩ := hnum_bd D (k := k) (by omega)
      have q1 := q1 hlt
      have q2 := hb_lt D k
      have hn : (hnum D (k + 1) : Int) = (hnum D k : Int) * 256 + (hb D k : Int) := by show ((hnum D k * 256 + hb D k : Nat) : Int) = _; omega
      have HN := Lib.hid hn
      clear hn q0
      have hi : (0 : Int) ≤ (hnum D k : Int) := by omega
      have hj : (hnum D k : Int) < 36028797018963968 := by omega
      have hj2 : (0 : Int) ≤ (hb D k : Int) := by omega
      have hj3 : (hb D k : Int) < 256 := by omega
      generalize (hnum D k : Int) = n at *
      generalize (hb D k : Int) = c at *
      go_wp2_with fail
      go_roundg (gk - 1)
      case measure => omega
      case rel => exact ⟨rfl, k + 1, by go_num, by omega, by omega, by rw [HN.out]⟩
    · obtain rfl : k = 8 := by omega
      obtain ⟨q0, _⟩ := hnum_bd D (k := 8) (by omega)
      have hi : (0 : Int) ≤ (hnum D 8 : Int) := by omega
      go_wp2_with fail
      go_ret
      exact ⟨rfl, HB.out⟩
theorem refelement_any (n : Int) (w : World) :
    Calls Tryz.prog 14 #[.int .i64 n] w fun e w' => e = .returned (.tuple #[.int .i64 (elC n), .int .i64 (elE n)]) ∧ w = w' := by
  by_cases h : 1 ≤ n ∧ n ≤ 1073741789
  · obtain ⟨h1, h2⟩ := h
    have e2 : elE n = 0 := by unfold elE; rw [if_pos ⟨h1, h2⟩]
    cases hv : vld n with
    | true =>
      have e1 : elC n = n := by unfold elC; rw [if_pos ⟨h1, h2⟩, hv]; rfl
      have E1 := Lib.hid e1
      have E2 := Lib.hid e2
      clear e1 e2
      go_enter Tryz.func14, Tryz.ntmps14
      go_wp2_with (go_at_call 50; refine (refvalid_any _ _).mono ?_; rintro e w' ⟨rfl, rfl⟩)
      go_ret2
      exact ⟨by rw [E1.out, E2.out] <;> rfl, rfl⟩
    | false =>
      have e1 : elC n = 2147483579 - n := by unfold elC; rw [if_pos ⟨h1, h2⟩, hv]; rfl
      have E1 := Lib.hid e1
      have E2 := Lib.hid e2
      clear e1 e2
      go_enter Tryz.func14, Tryz.ntmps14
      go_wp2_with (go_at_call 50; refine (refvalid_any _ _).mono ?_; rintro e w' ⟨rfl, rfl⟩)
      go_ret2
      exact ⟨by rw [E1.out, E2.out] <;> rfl, rfl⟩
  · have E1 := Lib.hid (show elC n = 0 by unfold elC; rw [if_neg h])
    have E2 := Lib.hid (show elE n = 1 by unfold elE; rw [if_neg h])
    by_cases h1 : n < 1
    · clear h
      go_enter Tryz.func14, Tryz.ntmps14
      go_wp2_with fail
      go_ret2
      exact ⟨by rw [E1.out, E2.out] <;> rfl, rfl⟩
    · have h2 : 1073741789 < n := by omega
      clear h
      go_enter Tryz.func14, Tryz.ntmps14
      go_wp2_with fail
      go_ret2
      exact ⟨by rw [E1.out, E2.out] <;> rfl, rfl⟩
theorem refnumber_any (n : Int) (w : World) :
    Calls Tryz.prog 124 #[.int .i64 n] w fun e w' => e = .returned (.tuple #[.int .i64 (numC n), .int .i64 (numE n)]) ∧ w = w' := by
  cases hv : vld n with
  | true =>
    have l1 := vld_lo hv
    have l2 := vld_hi hv
    have E2 := Lib.hid (show numE n = 0 by unfold numE; rw [hv]; rfl)
    by_cases h : n ≤ 1073741789
    · have E1 := Lib.hid (show numC n = n by unfold numC; rw [hv, if_pos rfl, if_pos h])
      go_enter Tryz.func124, Tryz.ntmps124
      go_wp2_with (go_at_call 50; refine (refvalid_any _ _).mono ?_; rintro e w' ⟨rfl, rfl⟩)
      go_ret2
      exact ⟨by rw [E1.out, E2.out] <;> rfl, rfl⟩
    · have E1 := Lib.hid (show numC n = 2147483579 - n by unfold numC; rw [hv, if_pos rfl, if_neg h])
      go_enter Tryz.func124, Tryz.ntmps124
      go_wp2_with (go_at_call 50; refine (refvalid_any _ _).mono ?_; rintro e w' ⟨rfl, rfl⟩)
      go_ret2
      exact ⟨by rw [E1.out, E2.out] <;> rfl, rfl⟩
  | false =>
    have E1 := Lib.hid (show numC n = 0 by unfold numC; rw [hv]; rfl)
    have E2 := Lib.hid (show numE n = 90 by unfold numE; rw [hv]; rfl)
    go_enter Tryz.func124, Tryz.ntmps124
    go_wp2_with (go_at_call 50; refine (refvalid_any _ _).mono ?_; rintro e w' ⟨rfl, rfl⟩)
    go_ret2
    exact ⟨by rw [E1.out, E2.out] <;> rfl, rfl⟩
end Go.Proofs.YthckledagggoiaaGreatDoor
