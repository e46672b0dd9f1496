import Derived.Test.YtaheibbbdglcmaaDoorRd2
import Derived.Test.YtaheibbbdglcmaaDoorOrd
import Derived.Deep.Cut
import Derived.Great.Walk
set_option linter.unusedSimpArgs false
namespace Go.Proofs.YtaheibbbdglcmaaDoor
open Go.RowKit Fk Sha
/-! The reference's block. -/
set_option maxRecDepth 100000 in
/-- the numbers laid into a new block -/
theorem store64 (W : World) : (storeCells ⟨W.heap.size, 0, none⟩ (numbersL.map u)).run Tryd.prog (W.alloc (.cells #[Value.int IntKind.u32 0, Value.int IntKind.u32 0, Value.int IntKind.u32 0, Value.int IntKind.u32 0, Value.int IntKind.u32 0, Value.int IntKind.u32 0, Value.int IntKind.u32 0, Value.int IntKind.u32 0, Value.int IntKind.u32 0, Value.int IntKind.u32 0, Value.int IntKind.u32 0, Value.int IntKind.u32 0, Value.int IntKind.u32 0, Value.int IntKind.u32 0, Value.int IntKind.u32 0, Value.int IntKind.u32 0, Value.int IntKind.u32 0, Value.int IntKind.u32 0, Value.int IntKind.u32 0, Value.int IntKind.u32 0, Value.int IntKind.u32 0, Value.int IntKind.u32 0, Value.int IntKind.u32 0, Value.int IntKind.u32 0, Value.int IntKind.u32 0, Value.int IntKind.u32 0, Value.int IntKind.u32 0, Value.int IntKind.u32 0, Value.int IntKind.u32 0, Value.int IntKind.u32 0, Value.int IntKind.u32 0, Value.int IntKind.u32 0, Value.int IntKind.u32 0, Value.int IntKind.u32 0, Value.int IntKind.u32 0, Value.int IntKind.u32 0, Value.int IntKind.u32 0, Value.int IntKind.u32 0, Value.int IntKind.u32 0, Value.int IntKind.u32 0, Value.int IntKind.u32 0, Value.int IntKind.u32 0, Value.int IntKind.u32 0, Value.int IntKind.u32 0, Value.int IntKind.u32 0, Value.int IntKind.u32 0, Value.int IntKind.u32 0, Value.int IntKind.u32 0, Value.int IntKind.u32 0, Value.int IntKind.u32 0, Value.int IntKind.u32 0, Value.int IntKind.u32 0, Value.int IntKind.u32 0, Value.int IntKind.u32 0, Value.int IntKind.u32 0, Value.int IntKind.u32 0, Value.int IntKind.u32 0, Value.int IntKind.u32 0, Value.int IntKind.u32 0, Value.int IntKind.u32 0, Value.int IntKind.u32 0, Value.int IntKind.u32 0, Value.int IntKind.u32 0, Value.int IntKind.u32 0] 117)) = .ok () (W.alloc (.cells (numbersL.map u).toArray 117)) := by
  have := run_storeCells_from (P := Tryd.prog) W.heap.size 117 (numbersL.map u) 0 (List.replicate 64 (Value.int .u32 0)).toArray (W.alloc (.cells (List.replicate 64 (Value.int .u32 0)).toArray 117)) (World.alloc_heap_new W _) rfl (fun v hv => by obtain ⟨y, _, rfl⟩ := List.mem_map.1 hv; rfl)
  rw [List.take_zero, List.nil_append, setRow_new] at this
  exact this
theorem not_if (x : W) : bits .xor .u32 (if IntKind.u32.signed = true then -1 else IntKind.u32.max) (un x) = un (~~~x) := not_n x
theorem num_at {W : World} {g : Nat} {t : TypeId} (h : Row W g t (numbersL.map u)) {k : Nat} (hk : k < 64) : W.cell? ⟨g, k, none⟩ = some (u (numbersL.getD k 0)) := by
  have hl : k < numbersL.length := hk
  rw [Row.cell h, List.getElem?_map, List.getD_eq_getElem?_getD, List.getElem?_eq_getElem hl]; rfl
set_option maxRecDepth 100000 in
set_option maxHeartbeats 4000000 in
theorem block_any (s : St) (blk : List B) (bg off cap : Nat) (w : World) (hl : blk.length = 64) (hcap : 64 ≤ cap) (hcap2 : cap ≤ 9223372036854775807)
    (hB : ∀ i, i < 64 → w.cell? ⟨bg, off + i, none⟩ = some (bv (blk.getD i default))) (hbg : bg < w.heap.size) :
    Calls Tryd.prog 83 #[.agg #[.int .u32 (un s.a), .int .u32 (un s.b), .int .u32 (un s.c), .int .u32 (un s.d), .int .u32 (un s.e), .int .u32 (un s.f), .int .u32 (un s.g), .int .u32 (un s.h)], .slice (some ⟨bg, off, none⟩) 64 cap] w fun e w' => e = .returned (.agg ((absorb s blk).list.map u).toArray) ∧ Below w.heap.size w w' := by
  go_enter Tryd.func83, Tryd.ntmps83
  go_upto_region 1 with (fail)
  obtain ⟨w0, hw0⟩ : ∃ w0 : World, (w.alloc (.cells (s.list.map u).toArray 94)).alloc (.cells (List.replicate 8 (Value.int .u32 0)).toArray 94) = w0 := ⟨_, rfl⟩
  have hz0 : w0.heap.size = w.heap.size + 2 := by rw [← hw0]; simp
  have hS0 : Row w0 w.heap.size 94 (s.list.map u) := by rw [← hw0]; exact Row.alloc (Row.new w _ _) _
  have hR0 : Row w0 (w.heap.size + 1) 94 (List.replicate 8 (.int .u32 0)) := by rw [← hw0]; exact row_at' (by simp) _ _
  have hB0 : Below w.heap.size w w0 := by rw [← hw0]; exact ((Below.refl _ w).alloc (Nat.le_refl _) _).alloc (by simp) _
  have hb0 : ∀ i, i < 64 → w0.cell? ⟨bg, off + i, none⟩ = some (bv (blk.getD i default)) := fun i hi => (hB0.cell (p := ⟨bg, off + i, none⟩) hbg).trans (hB i hi)
  have hbg0 : bg < w0.heap.size := by omega
  refine (show _ = w0 from hw0) ▸ ?_
  have hwd : Wd w0 (w0.alloc (Obj.cells (List.replicate 64 (Value.int IntKind.u32 0)).toArray 117)) [] := ⟨(Below.refl _ _).alloc (Nat.le_refl _) _, by simp, Row.new w0 _ _⟩
  have HB := Lib.hid hb0
  have HZ := Lib.hid hz0
  have HS := Lib.hid hS0
  have HR := Lib.hid hR0
  have HB0 := Lib.hid hB0
  clear hw0 hB hb0 hz0 hS0 hR0 hB0
  have hl16 := fun k => first16_length blk k
  refine wp_region_lit ?_
  refine Great.wpList_runTo rfl (some 22) rfl (.agg (List.replicate 64 (Value.int .u32 0)).toArray) w0 (by kernel_rfl) ?_
  refine Great.wpList_runTo rfl (some 5) rfl (.pointer (some ⟨w0.heap.size, 0, none⟩)) (w0.alloc (.cells (List.replicate 64 (Value.int .u32 0)).toArray 117)) (by kernel_rfl) ?_
  refine wpList_store_row rfl 117 (.tmp 5) (.tmp 22) rfl w0.heap.size (List.replicate 64 (Value.int .u32 0)).toArray rfl rfl 117 (List.replicate 64 (Value.int .u32 0)).toArray (World.alloc_heap_new w0 _) (by kernel_rfl) rfl (by kernel_rfl) ?_
  rw [setRow_new w0]
  generalize Value.agg (List.replicate 64 (Value.int .u32 0)).toArray = v22 at *
  generalize w0.alloc (.cells (List.replicate 64 (Value.int .u32 0)).toArray 117) = W1 at *
  go_wp2_with fail
  go_loopg [6] 16 (fun gk i wr => ∃ k : Nat, i = .int .i64 k ∧ k + gk = 16 ∧ Wd w0 wr (first16 blk k))
  case atStart => exact ⟨0, rfl, rfl, hwd⟩
  case round =>
    clear hwd
    obtain ⟨k, rfl, hk, hR⟩ := hrel
    by_cases hlt : k < 16
    · have hc : ∀ i, i < 4 → wr.cell? ⟨bg, off + 4 * k + i, none⟩ = some (bv (((blk.drop (4 * k)).take 4).getD i default)) := fun i hi => by
        rw [hR.below.cell (p := ⟨bg, off + 4 * k + i, none⟩) hbg0, Nat.add_assoc, HB.out _ (by omega), List.getD_eq_getElem?_getD, List.getD_eq_getElem?_getD, List.getElem?_take_of_lt hi, List.getElem?_drop]
      have hw := fun cap => refword_any ((blk.drop (4 * k)).take 4) bg (off + 4 * k) cap wr (by simp; omega) hc
      have hx : ∀ m, ∃ v, (wr.drewN m).cell? ⟨w0.heap.size, k, none⟩ = some v := fun m => ⟨_, (Row.cell (hR.drewN m).row k).trans (List.getElem?_eq_getElem (by simp [hl16]; omega))⟩
      have hp := fun m => (hR.drewN m).put (hl16 k) (by omega) (wd ((blk.drop (4 * k)).take 4))
      have hf := fun m => Row.frozen (hR.drewN m).row k
      unfold u at hw hp
      generalize un (wd ((blk.drop (4 * k)).take 4)) = x at *
      have HW := Lib.hid hw
      have HP := Lib.hid hp
      have HX := Lib.hid hx
      have HF := Lib.hid hf
      clear hw hp hc hR hx hf
      go_wp2_with (go_at_call 93; (with_reducible refine (HW.out _).mono ?_); rintro e w1 ⟨rfl, m, rfl⟩; obtain ⟨v0, hv0⟩ := HX.out m; have hf := HF.out m)
      go_roundg (gk - 1)
      case measure => omega
      case rel => exact ⟨k + 1, by go_num, by omega, HP.out _⟩
    · obtain rfl : k = 16 := by omega
      have hsc : Wd w0 wr (sched blk 0) := hR
      clear hR hl16
      go_wp2_with fail
      go_loopg [7] 48 (fun gk i wr => ∃ k : Nat, i = .int .i64 k ∧ 16 ≤ k ∧ k + gk = 64 ∧ Wd w0 wr (sched blk (k - 16)))
      case atStart => exact ⟨16, rfl, by omega, rfl, hsc⟩
      case round =>
        obtain ⟨k, rfl, hk16, hk, hR⟩ := hrel
        by_cases hlt : k < 64
        · have hlen := sched_length blk (k - 16)
          have HRk := Lib.hid hR
          have c15 := hR.get (i := k - 15) (by omega)
          have c2 := hR.get (i := k - 2) (by omega)
          obtain ⟨X, hX⟩ : ∃ X, (sched blk (k - 16)).getD (k - 15) 0 = X := ⟨_, rfl⟩
          obtain ⟨Y, hY⟩ : ∃ Y, (sched blk (k - 16)).getD (k - 2) 0 = Y := ⟨_, rfl⟩
          rw [hX] at c15
          rw [hY] at c2
          have HX := Lib.hid hX
          have HY := Lib.hid hY
          clear hR hsc hlen hX hY
          unfold u at c15 c2
          go_wp2_with fail
          clear c15 c2
          obtain ⟨W2, rfl⟩ : ∃ W2 : World, W2 = wr := ⟨_, rfl⟩
          have hR := HRk.out
          clear HRk
          have hlen := sched_length blk (k - 16)
          have c16 := hR.get (i := k - 16) (by omega)
          have c7 := hR.get (i := k - 7) (by omega)
          have hp := fun m => (hR.drewN m).put (k := k) (by omega) hlt (nextW (sched blk (k - 16)) k)
          have hf := fun m => Row.frozen (hR.drewN m).row k
          have hv : ∀ m, ∃ v, (W2.drewN m).cell? ⟨w0.heap.size, k, none⟩ = some v := fun m => ⟨_, (Row.cell (hR.drewN m).row k).trans (List.getElem?_eq_getElem (by simp; omega))⟩
          have e1 : sched blk (k + 1 - 16) = sched blk (k - 16) ++ [nextW (sched blk (k - 16)) k] := by
            have : nextW (sched blk (k - 16)) k = nextW (sched blk (k - 16)) (16 + (k - 16)) := by rw [show 16 + (k - 16) = k by omega]
            rw [this, show k + 1 - 16 = (k - 16) + 1 by omega]; rfl
          rw [← e1] at hp
          have hn : nextW (sched blk (k - 16)) k = (sched blk (k - 16)).getD (k - 16) 0 + s0 ((sched blk (k - 16)).getD (k - 15) 0) + (sched blk (k - 16)).getD (k - 7) 0 + s1 ((sched blk (k - 16)).getD (k - 2) 0) := rfl
          rw [hn, HX.out, HY.out] at hp
          generalize (sched blk (k - 16)).getD (k - 16) 0 = A at *
          generalize (sched blk (k - 16)).getD (k - 7) 0 = Z at *
          have q3 := shr_lit3 X
          have q10 := shr_lit10 Y
          have HP := Lib.hid hp
          have HF := Lib.hid hf
          have HV := Lib.hid hv
          clear hp hf hv e1 hR hlen hn
          have r7 := fun w => ror_7 X w
          have r18 := fun w => ror_18 X w
          have r17 := fun w => ror_17 Y w
          have r19 := fun w => ror_19 Y w
          unfold u at c16 c7 r7 r18 r17 r19
          have R7 := Lib.hid r7
          have R18 := Lib.hid r18
          have R17 := Lib.hid r17
          have R19 := Lib.hid r19
          clear r7 r18 r17 r19
          have bX := un_bd X
          have bY := un_bd Y
          have s1 : IntKind.i64.wrap ((k : Int) - 16) = (k : Int) - 16 := IntWalk.i64_in _ (by omega)
          have s2 : IntKind.i64.wrap ((k : Int) - 7) = (k : Int) - 7 := IntWalk.i64_in _ (by omega)
          have s3 : (0 : Int) ≤ (k : Int) - 16 := by omega
          have s4 : (k : Int) - 16 < 64 := by omega
          have s5 : (0 : Int) ≤ (k : Int) - 7 := by omega
          have s6 : (k : Int) - 7 < 64 := by omega
          have s7 : ((k : Int) - 16).toNat = k - 16 := by omega
          have s8 : ((k : Int) - 7).toNat = k - 7 := by omega
          have s9 : (0 : Int) ≤ k := by omega
          have s10 : (k : Int) < 64 := by omega
          have s11 : (16 : Int) ≤ k := by omega
          have s12 : (7 : Int) ≤ k := by omega
          refine wp_region_ord 29 [(1, 0), (1, 1), (1, 2), (1, 3), (1, 4), (1, 5), (1, 7), (1, 10), (1, 11), (1, 14), (1, 15), (1, 16), (1, 17), (1, 19), (1, 21), (1, 24), (1, 25), (2, 6), (2, 8), (1, 9), (1, 12), (1, 13), (1, 18), (2, 20), (2, 22), (1, 23), (1, 26), (1, 27), (1, 28)] (fun w' => ∃ m, w' = W2.drewN m) (by kernel_rfl) (by kernel_rfl) (fun _ _ d _ _ h => by cases d <;> exact h) ⟨1, rfl⟩ ?_
          have hS : ∃ m, W2.drew = W2.drewN m := ⟨1, rfl⟩
          generalize hV : W2.drew = V at hS ⊢
          clear hV
          iterate 17
            refine wpOrd_take (v := ?_) rfl (by rfl) (fun w hSw => ?_) ?_
            rotate_left 1
            · obtain ⟨_, rfl⟩ := hSw
              go_simp
              with_reducible rfl
            simp only [Act.put, List.setIfInBounds_toArray, List.set_cons_zero, List.set_cons_succ]
          refine wpOrd_step rfl (fun K hK => ⟨by rfl, ?_⟩)
          go_simp
          go_at_call 94
          refine (R7.out _).mono ?_
          rintro e w1 ⟨rfl, q9, rfl⟩
          have hS1 : ∃ m, V.drewN q9 = W2.drewN m := by obtain ⟨q, rfl⟩ := hS; exact ⟨q + q9, World.drewN_drewN ..⟩
          refine hK _ _ hS1 ?_
          clear hK K hS
          have hS := hS1
          clear hS1
          generalize V.drewN q9 = V at hS ⊢
          try simp only [Act.put, List.setIfInBounds_toArray, List.set_cons_zero, List.set_cons_succ]
          refine wpOrd_step rfl (fun K hK => ⟨by rfl, ?_⟩)
          go_simp
          go_at_call 94
          refine (R18.out _).mono ?_
          rintro e w1 ⟨rfl, q9, rfl⟩
          have hS1 : ∃ m, V.drewN q9 = W2.drewN m := by obtain ⟨q, rfl⟩ := hS; exact ⟨q + q9, World.drewN_drewN ..⟩
          refine hK _ _ hS1 ?_
          clear hK K hS
          have hS := hS1
          clear hS1
          generalize V.drewN q9 = V at hS ⊢
          try simp only [Act.put, List.setIfInBounds_toArray, List.set_cons_zero, List.set_cons_succ]
          iterate 4
            refine wpOrd_take (v := ?_) rfl (by rfl) (fun w hSw => ?_) ?_
            rotate_left 1
            · obtain ⟨_, rfl⟩ := hSw
              go_simp
              with_reducible rfl
            simp only [Act.put, List.setIfInBounds_toArray, List.set_cons_zero, List.set_cons_succ]
          refine wpOrd_step rfl (fun K hK => ⟨by rfl, ?_⟩)
          go_simp
          go_at_call 94
          refine (R17.out _).mono ?_
          rintro e w1 ⟨rfl, q9, rfl⟩
          have hS1 : ∃ m, V.drewN q9 = W2.drewN m := by obtain ⟨q, rfl⟩ := hS; exact ⟨q + q9, World.drewN_drewN ..⟩
          refine hK _ _ hS1 ?_
          clear hK K hS
          have hS := hS1
          clear hS1
          generalize V.drewN q9 = V at hS ⊢
          try simp only [Act.put, List.setIfInBounds_toArray, List.set_cons_zero, List.set_cons_succ]
          refine wpOrd_step rfl (fun K hK => ⟨by rfl, ?_⟩)
          go_simp
          go_at_call 94
          refine (R19.out _).mono ?_
          rintro e w1 ⟨rfl, q9, rfl⟩
          have hS1 : ∃ m, V.drewN q9 = W2.drewN m := by obtain ⟨q, rfl⟩ := hS; exact ⟨q + q9, World.drewN_drewN ..⟩
          refine hK _ _ hS1 ?_
          clear hK K hS
          have hS := hS1
          clear hS1
          generalize V.drewN q9 = V at hS ⊢
          try simp only [Act.put, List.setIfInBounds_toArray, List.set_cons_zero, List.set_cons_succ]
          iterate 4
            refine wpOrd_take (v := ?_) rfl (by rfl) (fun w hSw => ?_) ?_
            rotate_left 1
            · obtain ⟨_, rfl⟩ := hSw
              go_simp
              with_reducible rfl
            simp only [Act.put, List.setIfInBounds_toArray, List.set_cons_zero, List.set_cons_succ]
          refine wpOrd_nil ?_
          simp only [List.drop_succ_cons, List.drop_zero]
          obtain ⟨m, rfl⟩ := hS
          have hf := HF.out m
          obtain ⟨v0, hv0⟩ := HV.out m
          clear s1 s2 s3 s4 s5 s6 s7 s8 s11 s12
          go_wp2_with fail
          go_roundg (gk - 1)
          case measure => omega
          case rel =>
            refine ⟨k + 1, by go_num, by omega, by omega, ?_⟩
            rw [xor_n, xor_n, xor_n, xor_n, add_n4]
            exact HP.out m
        · obtain rfl : k = 64 := by omega
          have hsc : Wd w0 wr (sched blk 48) := hR
          clear hR
          have hn := fun w => refnumbers_any w
          have HN := Lib.hid hn
          have HSC := Lib.hid hsc
          clear hn hsc
          have hst := fun W => store64 W
          obtain ⟨wo, rfl⟩ : ∃ wo : World, wo = wr := ⟨_, rfl⟩
          go_upto_region 13 with (go_at_call 95; (with_reducible refine (HN.out _).mono ?_); rintro e w1 ⟨rfl, hb1⟩)
          clear hst
          have hT : Row (w1.alloc (.cells (numbersL.map u).toArray 117)) w1.heap.size 117 (numbersL.map u) := Row.new w1 _ _
          have hB1 : Below wo.heap.size wo (w1.alloc (.cells (numbersL.map u).toArray 117)) := hb1.alloc hb1.size _
          have hzk : wo.heap.size ≤ w1.heap.size := hb1.size
          generalize w1.alloc (.cells (numbersL.map u).toArray 117) = W1 at *
          generalize w1.heap.size = kb at *
          have hzo := HSC.out.size
          have hS1 : Row W1 w.heap.size 94 (s.list.map u) := Row.keep (Row.keep HS.out (HSC.out.below.block _ (by have := HZ.out; omega))) (hB1.block _ (by have := HZ.out; omega))
          obtain ⟨c0, c1, c2, c3, c4, c5, c6, c7⟩ := st8 hS1
          have HT := Lib.hid hT
          have HB1 := Lib.hid hB1
          have HS1 := Lib.hid hS1
          clear hT hB1 hS1 hb1 hzo
          generalize Value.agg (numbersL.map u).toArray = v78 at *
          go_quiet (fail)
          clear c0 c1 c2 c3 c4 c5 c6 c7
          go_wp2_with fail
          obtain ⟨V0, rfl⟩ : ∃ V0 : World, V0 = W1.drewN nq := ⟨_, rfl⟩
          go_loopg [11, 12, 13, 14, 15, 16, 17, 18, 19] 64 (fun gk a b c d e f g h i wx => (∃ m, wx = W1.drewN m) ∧ ∃ k : Nat, i = .int .i64 k ∧ k + gk = 64 ∧ a = u (rounds s (sched blk 48) k).a ∧ b = u (rounds s (sched blk 48) k).b ∧ c = u (rounds s (sched blk 48) k).c ∧ d = u (rounds s (sched blk 48) k).d ∧ e = u (rounds s (sched blk 48) k).e ∧ f = u (rounds s (sched blk 48) k).f ∧ g = u (rounds s (sched blk 48) k).g ∧ h = u (rounds s (sched blk 48) k).h)
          case atStart => exact ⟨⟨_, rfl⟩, 0, rfl, rfl, rfl, rfl, rfl, rfl, rfl, rfl, rfl, rfl⟩
          case round =>
            obtain ⟨⟨m, rfl⟩, k, rfl, hk, rfl, rfl, rfl, rfl, rfl, rfl, rfl, rfl⟩ := hrel
            by_cases hlt : k < 64
            · have cw : (W1.drewN m).cell? ⟨w0.heap.size, k, none⟩ = some (u ((sched blk 48).getD k 0)) := (HB1.out.cell (p := ⟨w0.heap.size, k, none⟩) (by have := HSC.out.size; simp only []; omega)).trans (HSC.out.get (by rw [sched_length]; omega))
              have cn : (W1.drewN m).cell? ⟨kb, k, none⟩ = some (u (numbersL.getD k 0)) := num_at HT.out hlt
              have hnext : rounds s (sched blk 48) (k + 1) = round (rounds s (sched blk 48) k) (numbersL.getD k 0) ((sched blk 48).getD k 0) := rfl
              obtain ⟨K, hK⟩ : ∃ K, numbersL.getD k 0 = K := ⟨_, rfl⟩
              obtain ⟨X, hX⟩ : ∃ X, (sched blk 48).getD k 0 = X := ⟨_, rfl⟩
              obtain ⟨t, ht⟩ : ∃ t, rounds s (sched blk 48) k = t := ⟨_, rfl⟩
              rw [hK] at cn hnext
              rw [hX] at cw hnext
              rw [ht] at hnext ⊢
              have HN := Lib.hid hnext
              obtain ⟨ta, tb, tc, td, te, tf, tg, th⟩ := t
              simp only []
              clear hK hX ht hnext
              have r6 := fun w => ror_6 te w
              have r11 := fun w => ror_11 te w
              have r25 := fun w => ror_25 te w
              have r2 := fun w => ror_2 ta w
              have r13 := fun w => ror_13 ta w
              have r22 := fun w => ror_22 ta w
              unfold u at cw cn r6 r11 r25 r2 r13 r22 ⊢
              have R6 := Lib.hid r6
              have R11 := Lib.hid r11
              have R25 := Lib.hid r25
              have R2 := Lib.hid r2
              have R13 := Lib.hid r13
              have R22 := Lib.hid r22
              clear r6 r11 r25 r2 r13 r22
              have hV : ∃ m', W1.drewN m = W1.drewN m' := ⟨_, rfl⟩
              generalize W1.drewN m = V at *
              have s9 : (0 : Int) ≤ k := by omega
              have s10 : (k : Int) < 64 := by omega
              go_wp2_with fail
              go_quiet ((first | (go_at_call 94; with_reducible exact Calls.quiet_of (R6.out _)) | (go_at_call 94; with_reducible exact Calls.quiet_of (R11.out _)) | (go_at_call 94; with_reducible exact Calls.quiet_of (R25.out _))))
              rw [not_if, xor_n, xor_n, and_n, and_n, xor_n, add_n4, add_n]
              clear cw cn s9 s10 R6 R11 R25
              generalize te_p : th + (rr te 6 ^^^ rr te 11 ^^^ rr te 25) + ((te &&& tf) ^^^ (~~~te &&& tg)) + K + X = p
              have HPp := Lib.hid te_p
              have hV2 : ∃ m', V.drewN nq = W1.drewN m' := by obtain ⟨q, rfl⟩ := hV; exact ⟨q + nq, World.drewN_drewN ..⟩
              clear te_p hV
              generalize V.drewN nq = V2 at *
              go_wp2_with (first
                | (go_at_call 94; (with_reducible refine (R2.out _).mono ?_); rintro e w1 ⟨rfl, q1, rfl⟩)
                | (go_at_call 94; (with_reducible refine (R13.out _).mono ?_); rintro e w1 ⟨rfl, q2, rfl⟩)
                | (go_at_call 94; (with_reducible refine (R22.out _).mono ?_); rintro e w1 ⟨rfl, q3, rfl⟩))
              have hE : round ⟨ta, tb, tc, td, te, tf, tg, th⟩ K X = ⟨p + ((rr ta 2 ^^^ rr ta 13 ^^^ rr ta 22) + ((ta &&& tb) ^^^ (ta &&& tc) ^^^ (tb &&& tc))), ta, tb, tc, td + p, te, tf, tg⟩ := by rw [← HPp.out, ch_ref, maj_ref]; rfl
              rw [xor_n, xor_n, and_n, and_n, and_n, xor_n, xor_n, add_n, add_n, add_n]
              generalize p + ((rr ta 2 ^^^ rr ta 13 ^^^ rr ta 22) + ((ta &&& tb) ^^^ (ta &&& tc) ^^^ (tb &&& tc))) = y at *
              rw [hE] at HN
              have hV3 : ∃ m', V2.drewN (q1 + q2 + q3) = W1.drewN m' := by obtain ⟨q, rfl⟩ := hV2; exact ⟨_, World.drewN_drewN ..⟩
              go_roundg (gk - 1)
              case measure => omega
              case rel => exact ⟨hV3, k + 1, by go_num, by omega, by rw [HN.out]; rfl, by rw [HN.out]; rfl, by rw [HN.out]; rfl, by rw [HN.out]; rfl, by rw [HN.out]; rfl, by rw [HN.out]; rfl, by rw [HN.out]; rfl, by rw [HN.out]; rfl⟩
            · obtain rfl : k = 64 := by omega
              have hab : absorb s blk = s.add (rounds s (sched blk 48) 64) := rfl
              generalize rounds s (sched blk 48) 64 = t at *
              have HAB := Lib.hid hab
              clear hab
              have hS5 : Row (W1.drewN m) w.heap.size 94 (s.list.map u) := HS1.out
              have hR5 : Row (W1.drewN m) (w.heap.size + 1) 94 (List.replicate 8 (.int .u32 0)) := Row.keep (Row.keep HR.out (HSC.out.below.block _ (by have := HZ.out; omega))) (HB1.out.block _ (by have := HZ.out; have := HSC.out.size; omega))
              have hB5 : Below w.heap.size w (W1.drewN m) := by
                have h1 := HB0.out.trans (HSC.out.below.mono (by have := HZ.out; omega))
                have h2 := h1.trans (HB1.out.mono (by have := HSC.out.size; have := HZ.out; omega))
                exact ⟨h2.os, h2.tape, h2.output, h2.size, h2.block⟩
              obtain ⟨c0, c1, c2, c3, c4, c5, c6, c7⟩ := st8 hS5
              have f0 := Row.frozen hR5 0
              have f1 := Row.frozen hR5 1
              have f2 := Row.frozen hR5 2
              have f3 := Row.frozen hR5 3
              have f4 := Row.frozen hR5 4
              have f5 := Row.frozen hR5 5
              have f6 := Row.frozen hR5 6
              have f7 := Row.frozen hR5 7
              have d0 : (W1.drewN m).cell? ⟨w.heap.size + 1, 0, none⟩ = some (.int .u32 0) := Row.cell hR5 0
              have d1 : (W1.drewN m).cell? ⟨w.heap.size + 1, 1, none⟩ = some (.int .u32 0) := Row.cell hR5 1
              have d2 : (W1.drewN m).cell? ⟨w.heap.size + 1, 2, none⟩ = some (.int .u32 0) := Row.cell hR5 2
              have d3 : (W1.drewN m).cell? ⟨w.heap.size + 1, 3, none⟩ = some (.int .u32 0) := Row.cell hR5 3
              have d4 : (W1.drewN m).cell? ⟨w.heap.size + 1, 4, none⟩ = some (.int .u32 0) := Row.cell hR5 4
              have d5 : (W1.drewN m).cell? ⟨w.heap.size + 1, 5, none⟩ = some (.int .u32 0) := Row.cell hR5 5
              have d6 : (W1.drewN m).cell? ⟨w.heap.size + 1, 6, none⟩ = some (.int .u32 0) := Row.cell hR5 6
              have d7 : (W1.drewN m).cell? ⟨w.heap.size + 1, 7, none⟩ = some (.int .u32 0) := Row.cell hR5 7
              generalize W1.drewN m = V at *
              have HR5 := Lib.hid hR5
              have HB5 := Lib.hid hB5
              clear hS5 hR5 hB5
              unfold u
              go_wp2_with fail
              rw [add_n, add_n, add_n, add_n, add_n, add_n, add_n, add_n]
              have hRf : Row ((((((((V.setCell ⟨w.heap.size + 1, 0, none⟩ (.int .u32 (un (s.a + t.a)))).setCell ⟨w.heap.size + 1, 1, none⟩ (.int .u32 (un (s.b + t.b)))).setCell ⟨w.heap.size + 1, 2, none⟩ (.int .u32 (un (s.c + t.c)))).setCell ⟨w.heap.size + 1, 3, none⟩ (.int .u32 (un (s.d + t.d)))).setCell ⟨w.heap.size + 1, 4, none⟩ (.int .u32 (un (s.e + t.e)))).setCell ⟨w.heap.size + 1, 5, none⟩ (.int .u32 (un (s.f + t.f)))).setCell ⟨w.heap.size + 1, 6, none⟩ (.int .u32 (un (s.g + t.g)))).setCell ⟨w.heap.size + 1, 7, none⟩ (.int .u32 (un (s.h + t.h)))) (w.heap.size + 1) 94 ((s.add t).list.map u) := (Row.store (Row.store (Row.store (Row.store (Row.store (Row.store (Row.store (Row.store HR5.out 0 _) 1 _) 2 _) 3 _) 4 _) 5 _) 6 _) 7 _)
              have hBf : Below w.heap.size w ((((((((V.setCell ⟨w.heap.size + 1, 0, none⟩ (.int .u32 (un (s.a + t.a)))).setCell ⟨w.heap.size + 1, 1, none⟩ (.int .u32 (un (s.b + t.b)))).setCell ⟨w.heap.size + 1, 2, none⟩ (.int .u32 (un (s.c + t.c)))).setCell ⟨w.heap.size + 1, 3, none⟩ (.int .u32 (un (s.d + t.d)))).setCell ⟨w.heap.size + 1, 4, none⟩ (.int .u32 (un (s.e + t.e)))).setCell ⟨w.heap.size + 1, 5, none⟩ (.int .u32 (un (s.f + t.f)))).setCell ⟨w.heap.size + 1, 6, none⟩ (.int .u32 (un (s.g + t.g)))).setCell ⟨w.heap.size + 1, 7, none⟩ (.int .u32 (un (s.h + t.h)))) := ((((((((HB5.out.setCell (by simp only []; omega) _).setCell (by simp only []; omega) _).setCell (by simp only []; omega) _).setCell (by simp only []; omega) _).setCell (by simp only []; omega) _).setCell (by simp only []; omega) _).setCell (by simp only []; omega) _).setCell (by simp only []; omega) _)
              generalize ((((((((V.setCell ⟨w.heap.size + 1, 0, none⟩ (.int .u32 (un (s.a + t.a)))).setCell ⟨w.heap.size + 1, 1, none⟩ (.int .u32 (un (s.b + t.b)))).setCell ⟨w.heap.size + 1, 2, none⟩ (.int .u32 (un (s.c + t.c)))).setCell ⟨w.heap.size + 1, 3, none⟩ (.int .u32 (un (s.d + t.d)))).setCell ⟨w.heap.size + 1, 4, none⟩ (.int .u32 (un (s.e + t.e)))).setCell ⟨w.heap.size + 1, 5, none⟩ (.int .u32 (un (s.f + t.f)))).setCell ⟨w.heap.size + 1, 6, none⟩ (.int .u32 (un (s.g + t.g)))).setCell ⟨w.heap.size + 1, 7, none⟩ (.int .u32 (un (s.h + t.h)))) = Vf at *
              have hinf : (Tryd.prog.info? 94).map (·.size) = some 8 := by kernel_rfl
              exact bodyPost_ret (v := .agg ((s.add t).list.map u).toArray) (results_cell_row (g := w.heap.size + 1) (t := 94) (fr := (0, 0)) rfl _ Vf _ _ rfl hRf Tryd.underlying94 rfl (by rw [hinf]; rfl)) rfl ⟨by rw [HAB.out], hBf⟩
end Go.Proofs.YtaheibbbdglcmaaDoor
