import Derived.Deep.QuietTactic
import Derived.BigQuiet
import Derived.Test.YthboebhghaabnaaGreatDoorPzh
set_option linter.unusedSimpArgs false
set_option linter.unusedVariables false
namespace Go.Proofs.YthboebhghaabnaaGreatDoor
open Go.RowKit Fk Sha
/-! A shuffle that was opened. -/
theorem infoPr : (Tryz.prog.info? 84).map (fun i => (i.zero, i.size, i.bytes)) = some (some (.agg #[.int .i64 0, .int .i64 0]), 2, 16) := by kernel_rfl
theorem cidx0 (a b c d e f : Int) (w : World) : (Instr.index 80 (.agg #[.int .i64 a, .int .i64 b, .int .i64 c, .int .i64 d, .int .i64 e, .int .i64 f]) (.int .i64 0)).run Tryz.prog w = .ok (.int .i64 a) w := by kernel_rfl
theorem cidx1 (a b c d e f : Int) (w : World) : (Instr.index 80 (.agg #[.int .i64 a, .int .i64 b, .int .i64 c, .int .i64 d, .int .i64 e, .int .i64 f]) (.int .i64 1)).run Tryz.prog w = .ok (.int .i64 b) w := by kernel_rfl
theorem cidx2 (a b c d e f : Int) (w : World) : (Instr.index 80 (.agg #[.int .i64 a, .int .i64 b, .int .i64 c, .int .i64 d, .int .i64 e, .int .i64 f]) (.int .i64 2)).run Tryz.prog w = .ok (.int .i64 c) w := by kernel_rfl
theorem cidx3 (a b c d e f : Int) (w : World) : (Instr.index 80 (.agg #[.int .i64 a, .int .i64 b, .int .i64 c, .int .i64 d, .int .i64 e, .int .i64 f]) (.int .i64 3)).run Tryz.prog w = .ok (.int .i64 d) w := by kernel_rfl
theorem cidx4 (a b c d e f : Int) (w : World) : (Instr.index 80 (.agg #[.int .i64 a, .int .i64 b, .int .i64 c, .int .i64 d, .int .i64 e, .int .i64 f]) (.int .i64 4)).run Tryz.prog w = .ok (.int .i64 e) w := by kernel_rfl
theorem cidx5 (a b c d e f : Int) (w : World) : (Instr.index 80 (.agg #[.int .i64 a, .int .i64 b, .int .i64 c, .int .i64 d, .int .i64 e, .int .i64 f]) (.int .i64 5)).run Tryz.prog w = .ok (.int .i64 f) w := by kernel_rfl
set_option maxRecDepth 100000 in
set_option maxHeartbeats 8000000 in
theorem check_main (key : Int) (x : MxA) (m : Mx) (bits : List Int) (l : List Og) (A A1 : Option Addr) (c c1 n : Nat) (w : World) (hT : TabS w) (h : MxS w w.heap.size x m) (hb : SlI w w.heap.size (.slice A bits.length c) bits) (hl : SlG 36 Og.cells w w.heap.size (.slice A1 l.length c1) l)
    (hmo : MxOK m) (hlo : ∀ i, i < l.length → (l.getD i default).ok) (hn : m.i.length = n) (hlong : longB m bits l = true) (hform : formB key m bits = true) :
    Calls Tryz.prog 12 #[.int .i64 key, .agg (x.cells m).toArray, .slice A bits.length c, .slice A1 l.length c1] w fun e w' => e = .returned (.bool (checkB key m bits l)) ∧ Below w.heap.size w w' := by
  have hcb : checkB key m bits l = ((List.range n).all (fun j => fitsB key m j (bits.getD j default) (l.getD j default)) && decide (placesTo bits l n).Nodup) := by
    unfold checkB; rw [hlong, hform, hn]; simp
  rw [hcb]
  unfold longB at hlong
  unfold formB at hform
  simp only [Bool.and_eq_true, decide_eq_true_iff] at hlong hform
  obtain ⟨lm, lo, ll, lr, lb, lg⟩ := hlong
  obtain ⟨f1, f2, f3, f4, f5, f6⟩ := hform
  rw [hn] at lm lo ll lr lb lg f2
  obtain ⟨hi, hm, ho, hdl, hdr⟩ := h
  obtain ⟨ai, ci, am, cm, ao, co, al, cl, ar, cr⟩ := x
  unfold MxA.cells
  simp only at hi hm ho hdl hdr ⊢
  rw [hn] at hi ⊢
  rw [lm] at hm ⊢
  rw [lo] at ho ⊢
  rw [ll] at hdl ⊢
  rw [lr] at hdr ⊢
  rw [lb] at hb ⊢
  rw [lg] at hl ⊢
  have q1 := fun w => valid_any key w
  rw [f1] at q1
  have hB := below_alloc' w (.cells #[.slice ai n ci, .slice am n cm, .slice ao n co, .slice al n cl, .slice ar n cr] 32)
  have r0 := Row.new w 32 [.slice ai n ci, .slice am n cm, .slice ao n co, .slice al n cl, .slice ar n cr]
  obtain ⟨W, hW⟩ : ∃ W, w.alloc (.cells #[.slice ai n ci, .slice am n cm, .slice ao n co, .slice al n cl, .slice ar n cr] 32) = W := ⟨_, rfl⟩
  replace r0 : Row W w.heap.size 32 [.slice ai n ci, .slice am n cm, .slice ao n co, .slice al n cl, .slice ar n cr] := hW ▸ r0
  rw [hW] at hB
  have q2 := fun (w' : World) (hb' : Below w.heap.size w w') => formed_any m.i _ w' ((hi.below hb').mono hb'.size)
  have q3 := fun (w' : World) (hb' : Below w.heap.size w w') => formed_any m.m _ w' ((hm.below hb').mono hb'.size)
  have q4 := fun (w' : World) (hb' : Below w.heap.size w w') => formed_any m.o _ w' ((ho.below hb').mono hb'.size)
  have q5 := fun (w' : World) (hb' : Below w.heap.size w w') => binary_any bits _ w' ((hb.below hb').mono hb'.size)
  rw [f3] at q2
  rw [f4] at q3
  rw [f5] at q4
  rw [f6] at q5
  have q6 := fun w => halves_any w
  unfold halvesV at q6
  have c0 : W.cell? ⟨w.heap.size, 0, none⟩ = some _ := r0.cell 0
  have c1' : W.cell? ⟨w.heap.size, 1, none⟩ = some _ := r0.cell 1
  have c2 : W.cell? ⟨w.heap.size, 2, none⟩ = some _ := r0.cell 2
  have c3 : W.cell? ⟨w.heap.size, 3, none⟩ = some _ := r0.cell 3
  have c4 : W.cell? ⟨w.heap.size, 4, none⟩ = some _ := r0.cell 4
  have hlt := r0.lt
  have hBB : Below w.heap.size w W := hB
  have s1 : ¬ ((64 : Int) < n) := by omega
  have i0 := cidx0
  have i1 := cidx1
  have i2 := cidx2
  have i3 := cidx3
  have i4 := cidx4
  have i5 := cidx5
  have Q1 := Lib.hid q1
  have Q2 := Lib.hid q2
  have Q3 := Lib.hid q3
  have Q4 := Lib.hid q4
  have Q5 := Lib.hid q5
  have Q6 := Lib.hid q6
  have HI := Lib.hid hi
  have HM := Lib.hid hm
  have HO := Lib.hid ho
  have HDL := Lib.hid hdl
  have HDR := Lib.hid hdr
  have HBT := Lib.hid hb
  have HLO := Lib.hid hl
  have HT := Lib.hid hT
  have HOK := Lib.hid hmo
  have HLK := Lib.hid hlo
  have HN := Lib.hid hn
  have L1 := Lib.hid lm
  have L2 := Lib.hid lo
  have L3 := Lib.hid ll
  have L4 := Lib.hid lr
  have L5 := Lib.hid lb
  have L6 := Lib.hid lg
  have F6 := Lib.hid f6
  have R0 := Lib.hid r0
  clear q1 q2 q3 q4 q5 q6 hi hm ho hdl hdr hb hl hT hmo hlo hn lm lo ll lr lb lg f1 f3 f4 f5 f6 hcb r0
  go_enter Tryz.func12, Tryz.ntmps12
  go_upto_region 1 with fail
  try rw [hW]
  clear hW
  go_wp2_with fail
  refine wp_loop_rounds 7 ?_
  rw [rounds_succ]
  go_wp2_with fail
  rw [rounds_succ]
  go_wp2_with fail
  rw [rounds_succ]
  go_wp2_with fail
  rw [rounds_succ]
  go_wp2_with fail
  rw [rounds_succ]
  go_wp2_with fail
  rw [rounds_succ]
  go_wp2_with fail
  rw [rounds_succ]
  go_upto_region 12 with (first
    | (go_at_call 22; (with_reducible refine (Q1.out _).mono ?_); rintro e w1 ⟨rfl, rfl⟩)
    | (go_at_call 23; (with_reducible refine (Q2.out _ hBB).mono ?_); rintro e w2 ⟨rfl, hb2⟩; have hB2 := hBB.trans (hb2.mono hBB.size); have g1 : w2.cell? ⟨w.heap.size, 1, none⟩ = _ := (hb2.cell (p := ⟨w.heap.size, 1, none⟩) hlt).trans c1'; have g2 : w2.cell? ⟨w.heap.size, 2, none⟩ = _ := (hb2.cell (p := ⟨w.heap.size, 2, none⟩) hlt).trans c2)
    | (go_at_call 23; (with_reducible refine (Q3.out _ hB2).mono ?_); rintro e w3 ⟨rfl, hb3⟩; replace hb3 := hb2.trans (hb3.mono hb2.size); have hB3 := hBB.trans (hb3.mono hBB.size); have g3 : w3.cell? ⟨w.heap.size, 2, none⟩ = _ := (hb3.cell (p := ⟨w.heap.size, 2, none⟩) hlt).trans c2)
    | (go_at_call 23; (with_reducible refine (Q4.out _ hB3).mono ?_); rintro e w4 ⟨rfl, hb4⟩; replace hb4 := hb3.trans (hb4.mono hb3.size); have hB4 := hBB.trans (hb4.mono hBB.size))
    | (go_at_call 35; (with_reducible refine (Q5.out _ hB4).mono ?_); rintro e w5 ⟨rfl, hb5⟩; replace hb5 := hb4.trans (hb5.mono hb4.size))
    | (go_at_call 26; (with_reducible refine (Q6.out _).mono ?_); rintro e w6 ⟨rfl, hb6⟩; replace hb6 := hb5.trans (hb6.mono hb5.size)))
  obtain ⟨ip, hip, hiz0, hiz1, hiz2⟩ := info_parts infoPr
  have rh := Row.new w6 72 (hvL ++ hvR)
  obtain ⟨W4, hW4⟩ : ∃ W4, w6.alloc (.cells #[.string ⟨#[108, 101, 102, 116]⟩, .func (Fn.func 48) #[] #[], .func (Fn.func 49) #[] #[], .func (Fn.func 50) #[] #[], .string ⟨#[114, 105, 103, 104, 116]⟩, .func (Fn.func 51) #[] #[], .func (Fn.func 52) #[] #[], .func (Fn.func 53) #[] #[]] 72) = W4 := ⟨_, rfl⟩
  replace rh : Row W4 w6.heap.size 72 [.string ⟨#[108, 101, 102, 116]⟩, .func (Fn.func 48) #[] #[], .func (Fn.func 49) #[] #[], .func (Fn.func 50) #[] #[], .string ⟨#[114, 105, 103, 104, 116]⟩, .func (Fn.func 51) #[] #[], .func (Fn.func 52) #[] #[], .func (Fn.func 53) #[] #[]] := hW4 ▸ rh
  have hb7 := hb6.alloc hb6.size (.cells #[.string ⟨#[108, 101, 102, 116]⟩, .func (Fn.func 48) #[] #[], .func (Fn.func 49) #[] #[], .func (Fn.func 50) #[] #[], .string ⟨#[114, 105, 103, 104, 116]⟩, .func (Fn.func 51) #[] #[], .func (Fn.func 52) #[] #[], .func (Fn.func 53) #[] #[]] 72)
  rw [hW4] at hb7 ⊢
  clear hW4
  have hgz := hb6.size
  clear hb2 hb3 hb4 hb5 hb6 hB2 hB3 hB4 hBB g1 g2 g3 c0 c1' c2 c3 c4 i0 i1 i2 i3 i4 i5
  generalize w6.heap.size = gh at *
  have hghl := rh.lt
  have hz4 := hb7.size
  have hBW4 := hB.trans (hb7.mono hB.size)
  go_wp2_with fail
  go_loopg [13, 82] n (fun gg v iv wr => ∃ k : Nat, iv = .int .i64 k ∧ k + gg = n ∧ Below W4.heap.size W4 wr ∧ wr.ownsRow W4.heap.size 84 2 v k ((placesTo bits l k).flatMap encPr) ∧ Hid (∀ j, j < k → fitsB key m j (bits.getD j default) (l.getD j default) = true))
  case atStart => exact ⟨0, rfl, by omega, Below.refl _ _, World.ownsRow_nil _ _ _ _, fun j hj => absurd hj (by omega)⟩
  case round =>
    obtain ⟨k, rfl, hkg, hBr, hown, hall⟩ := hrel
    have hzr := hBr.size
    by_cases hk : k < n
    · have hbW : Below W.heap.size W wr := hb7.trans (hBr.mono hz4)
      have hbw : Below w.heap.size w wr := hBW4.trans (hBr.mono (by omega))
      obtain ⟨b0, o0, ha0, hb0, e0⟩ := sl_at (HBT.out.below hbw) (j := k) (by rw [L5.out]; exact hk)
      obtain ⟨b1, o1, ha1, hb1, e1⟩ := sl_at (HLO.out.below hbw) (j := k) (by rw [L6.out]; exact hk)
      subst ha0 ha1
      have d0 := e0 0 (by omega)
      have hbt := bit_at F6.out (j := k) (by rw [L5.out]; exact hk)
      have hok := HLK.out k (by rw [L6.out]; exact hk)
      obtain ⟨b, hbb⟩ : ∃ b, bits.getD k default = b := ⟨_, rfl⟩
      obtain ⟨o, hoo⟩ : ∃ o, l.getD k default = o := ⟨_, rfl⟩
      rw [hbb] at hbt
      rw [hoo] at e1 hok
      simp only [encI, hbb, List.getD_cons_zero, Nat.add_zero, Nat.mul_one] at d0
      have hos := hok.2
      have hrg : wr.rangeAt b1 (o1 + k * 36) o.cells := range_sl e1 (og_len hos)
      have s2 : (0 : Int) ≤ k := by omega
      have s3 : (k : Int) < n := by omega
      have hrh := rh.below hBr hghl
      have HBB := Lib.hid hbb
      have HOO := Lib.hid hoo
      have hb1l : b1 < wr.heap.size := by have := hbw.size; omega
      have hghr : gh < wr.heap.size := Nat.lt_of_lt_of_le hghl hzr
      clear e0 e1 hbb hoo
      go_upto_region 15 with fail
      go_cut [16, 17] from 87 to 93 (fun p q W' => ∃ G1 G2, p = .pointer (some ⟨G1, 0, none⟩) ∧ q = .pointer (some ⟨G2, 0, none⟩) ∧ CkB wr o b G1 G2 W')
      case first =>
        have hS : ∀ w', Below wr.heap.size wr w' → w'.rangeAt b1 (o1 + k * 36) o.cells ∧ w'.cell? ⟨gh, 0, none⟩ = some (.string ⟨#[108, 101, 102, 116]⟩) ∧ w'.cell? ⟨gh, 1, none⟩ = some (.func (Fn.func 48) #[] #[]) ∧ w'.cell? ⟨gh, 2, none⟩ = some (.func (Fn.func 49) #[] #[]) ∧ w'.cell? ⟨gh, 3, none⟩ = some (.func (Fn.func 50) #[] #[]) ∧ w'.cell? ⟨gh, 4, none⟩ = some (.string ⟨#[114, 105, 103, 104, 116]⟩) ∧ w'.cell? ⟨gh, 5, none⟩ = some (.func (Fn.func 51) #[] #[]) ∧ w'.cell? ⟨gh, 6, none⟩ = some (.func (Fn.func 52) #[] #[]) ∧ w'.cell? ⟨gh, 7, none⟩ = some (.func (Fn.func 53) #[] #[]) := fun w' hb' => by
          have rr := hrh.below hb' hghr
          exact ⟨range_below hrg hb' hb1l, rr.cell 0, rr.cell 1, rr.cell 2, rr.cell 3, rr.cell 4, rr.cell 5, rr.cell 6, rr.cell 7⟩
        refine wp_region_tree 10 (.take 0 (.take 1 (.take 2 (.take 3 (.take 4 (.take 5 (.take 6 (.two 7 (.one 8 (.one 9 .done)) 8 (.one 7 (.one 9 .done))))))))))
          (fun w' => w'.rangeAt b1 (o1 + k * 36) o.cells ∧ w'.cell? ⟨gh, 0, none⟩ = some (.string ⟨#[108, 101, 102, 116]⟩) ∧ w'.cell? ⟨gh, 1, none⟩ = some (.func (Fn.func 48) #[] #[]) ∧ w'.cell? ⟨gh, 2, none⟩ = some (.func (Fn.func 49) #[] #[]) ∧ w'.cell? ⟨gh, 3, none⟩ = some (.func (Fn.func 50) #[] #[]) ∧ w'.cell? ⟨gh, 4, none⟩ = some (.string ⟨#[114, 105, 103, 104, 116]⟩) ∧ w'.cell? ⟨gh, 5, none⟩ = some (.func (Fn.func 51) #[] #[]) ∧ w'.cell? ⟨gh, 6, none⟩ = some (.func (Fn.func 52) #[] #[]) ∧ w'.cell? ⟨gh, 7, none⟩ = some (.func (Fn.func 53) #[] #[])) (by kernel_rfl) (by kernel_rfl) (fun _ _ d _ _ h => by cases d <;> exact h) (hS _ (Below.refl _ _).drew) ?_
        have hB1 : Below wr.heap.size wr wr.drew := (Below.refl _ _).drew
        have hz1 : wr.drew.heap.size = wr.heap.size := rfl
        have HS := Lib.hid hS
        clear hS hown hrg hrh d0
        generalize wr.drew = W1 at *
        iterate 3
          refine wpTree_take (v := ?_) rfl (by kernel_rfl) (fun w hSw => ?_) ?_
          rotate_left 1
          · go_simp
            with_reducible rfl
          simp only [Act.put, List.setIfInBounds_toArray, List.set_cons_zero, List.set_cons_succ]
        refine wpTree_take (v := .agg o.cells.toArray) rfl (by kernel_rfl) (fun w hSw => exec_load (ty := 60) (x := .tmp 89) (p := .pointer (some ⟨b1, o1 + k * 36, none⟩)) (by kernel_rfl) (by kernel_rfl) (run_loadAt_mid w b1 (o1 + k * 36) 60 o.cells _ hSw.1 Tryz.underlying60 rfl (sizeOg hos))) ?_
        simp only [Act.put, List.setIfInBounds_toArray, List.set_cons_zero, List.set_cons_succ]
        rcases hbt with rfl | rfl
        · iterate 3
            refine wpTree_take (v := ?_) rfl (by kernel_rfl) (fun w hSw => ?_) ?_
            rotate_left 1
            · obtain ⟨k8, k0, k1, k2, k3, k4, k5, k6, k7⟩ := hSw
              go_simp
              with_reducible rfl
            simp only [Act.put, List.setIfInBounds_toArray, List.set_cons_zero, List.set_cons_succ]
          refine wpTree_two rfl rfl (fun K hK => ⟨by kernel_rfl, ?_⟩) (fun K hK => ⟨by kernel_rfl, ?_⟩)
          · go_simp
            have hBa := hB1.alloc (Nat.le_of_eq hz1.symm) (.cells zOgC.toArray 60)
            have hBb := hBa.alloc (by rw [World.size_alloc]; omega) (.cells zHalf.toArray 71)
            have ra := Row.alloc (Row.new W1 60 zOgC) (.cells zHalf.toArray 71)
            have rb : Row ((W1.alloc (.cells zOgC.toArray 60)).alloc (.cells zHalf.toArray 71)) (W1.heap.size + 1) 71 zHalf := by have := Row.new (W1.alloc (.cells zOgC.toArray 60)) 71 zHalf; rwa [World.size_alloc] at this
            refine hK _ _ (HS.out _ hBa) ?_
            clear hK K
            try simp only [Act.put, List.setIfInBounds_toArray, List.set_cons_zero, List.set_cons_succ]
            refine wpTree_one rfl (fun K hK => ⟨by kernel_rfl, ?_⟩)
            go_simp
            refine hK _ _ (HS.out _ hBb) ?_
            clear hK K
            try simp only [Act.put, List.setIfInBounds_toArray, List.set_cons_zero, List.set_cons_succ]
            obtain ⟨W2, hW2⟩ : ∃ W2, (W1.alloc (.cells zOgC.toArray 60)).alloc (.cells zHalf.toArray 71) = W2 := ⟨_, rfl⟩
            rw [hW2] at ra rb hBb
            change wpTree _ _ _ _ _ _ _ ((W1.alloc (.cells zOgC.toArray 60)).alloc (.cells zHalf.toArray 71))
            rw [hW2]
            clear hW2 hBa
            rw [hz1] at ra rb
            have r1 := ra
            have r2 := rb
            have hB2 := hBb
            clear ra rb hBb
            have hlen : o.cells.length = 36 := og_len hos
            have hst := store_og o.cells (og_len hos) (og_one o) r1 (by simp [zOgC])
            refine wpTree_one rfl (fun K hK => ⟨by kernel_rfl, ?_⟩)
            go_simp
            refine hK _ _ (HS.out _ (below_setRow (g := wr.heap.size) hB2 (by omega) _)) ?_
            clear hK K
            try simp only [Act.put, List.setIfInBounds_toArray, List.set_cons_zero, List.set_cons_succ]
            refine wpTree_done ?_
            simp only [List.drop_succ_cons, List.drop_zero]
            have fin := CkB.store (og := o) (bt := 0) hB2 (by omega) (by omega) (by omega) r1 r2 rfl
            have k2 := Row.setRow_other r2 (g := wr.heap.size) (by omega) o.cells.toArray
            generalize W2.setRow wr.heap.size o.cells.toArray = W3 at *
            have e0 : W3.cell? ⟨wr.heap.size + 1, 0, none⟩ = some _ := k2.cell 0
            have e1 : W3.cell? ⟨wr.heap.size + 1, 1, none⟩ = some _ := k2.cell 1
            have e2 : W3.cell? ⟨wr.heap.size + 1, 2, none⟩ = some _ := k2.cell 2
            have e3 : W3.cell? ⟨wr.heap.size + 1, 3, none⟩ = some _ := k2.cell 3
            have ff := fun i => Row.frozen k2 i
            have FIN := Lib.hid fin
            clear fin hst r1 r2 k2 hB2
            go_wp2_with fail
            go_meet
            case rel => exact ⟨_, _, rfl, rfl, FIN.out⟩
          · go_simp
            have hBa := hB1.alloc (Nat.le_of_eq hz1.symm) (.cells zHalf.toArray 71)
            have hBb := hBa.alloc (by rw [World.size_alloc]; omega) (.cells zOgC.toArray 60)
            have ra := Row.alloc (Row.new W1 71 zHalf) (.cells zOgC.toArray 60)
            have rb : Row ((W1.alloc (.cells zHalf.toArray 71)).alloc (.cells zOgC.toArray 60)) (W1.heap.size + 1) 60 zOgC := by have := Row.new (W1.alloc (.cells zHalf.toArray 71)) 60 zOgC; rwa [World.size_alloc] at this
            refine hK _ _ (HS.out _ hBa) ?_
            clear hK K
            try simp only [Act.put, List.setIfInBounds_toArray, List.set_cons_zero, List.set_cons_succ]
            refine wpTree_one rfl (fun K hK => ⟨by kernel_rfl, ?_⟩)
            go_simp
            refine hK _ _ (HS.out _ hBb) ?_
            clear hK K
            try simp only [Act.put, List.setIfInBounds_toArray, List.set_cons_zero, List.set_cons_succ]
            obtain ⟨W2, hW2⟩ : ∃ W2, (W1.alloc (.cells zHalf.toArray 71)).alloc (.cells zOgC.toArray 60) = W2 := ⟨_, rfl⟩
            rw [hW2] at ra rb hBb
            change wpTree _ _ _ _ _ _ _ ((W1.alloc (.cells zHalf.toArray 71)).alloc (.cells zOgC.toArray 60))
            rw [hW2]
            clear hW2 hBa
            rw [hz1] at ra rb
            have r1 := rb
            have r2 := ra
            have hB2 := hBb
            clear ra rb hBb
            have hlen : o.cells.length = 36 := og_len hos
            have hst := store_og o.cells (og_len hos) (og_one o) r1 (by simp [zOgC])
            refine wpTree_one rfl (fun K hK => ⟨by kernel_rfl, ?_⟩)
            go_simp
            refine hK _ _ (HS.out _ (below_setRow (g := (wr.heap.size + 1)) hB2 (by omega) _)) ?_
            clear hK K
            try simp only [Act.put, List.setIfInBounds_toArray, List.set_cons_zero, List.set_cons_succ]
            refine wpTree_done ?_
            simp only [List.drop_succ_cons, List.drop_zero]
            have fin := CkB.store (og := o) (bt := 0) hB2 (by omega) (by omega) (by omega) r1 r2 rfl
            have k2 := Row.setRow_other r2 (g := (wr.heap.size + 1)) (by omega) o.cells.toArray
            generalize W2.setRow (wr.heap.size + 1) o.cells.toArray = W3 at *
            have e0 : W3.cell? ⟨wr.heap.size, 0, none⟩ = some _ := k2.cell 0
            have e1 : W3.cell? ⟨wr.heap.size, 1, none⟩ = some _ := k2.cell 1
            have e2 : W3.cell? ⟨wr.heap.size, 2, none⟩ = some _ := k2.cell 2
            have e3 : W3.cell? ⟨wr.heap.size, 3, none⟩ = some _ := k2.cell 3
            have ff := fun i => Row.frozen k2 i
            have FIN := Lib.hid fin
            clear fin hst r1 r2 k2 hB2
            go_wp2_with fail
            go_meet
            case rel => exact ⟨_, _, rfl, rfl, FIN.out⟩
        · iterate 3
            refine wpTree_take (v := ?_) rfl (by kernel_rfl) (fun w hSw => ?_) ?_
            rotate_left 1
            · obtain ⟨k8, k0, k1, k2, k3, k4, k5, k6, k7⟩ := hSw
              go_simp
              with_reducible rfl
            simp only [Act.put, List.setIfInBounds_toArray, List.set_cons_zero, List.set_cons_succ]
          refine wpTree_two rfl rfl (fun K hK => ⟨by kernel_rfl, ?_⟩) (fun K hK => ⟨by kernel_rfl, ?_⟩)
          · go_simp
            have hBa := hB1.alloc (Nat.le_of_eq hz1.symm) (.cells zOgC.toArray 60)
            have hBb := hBa.alloc (by rw [World.size_alloc]; omega) (.cells zHalf.toArray 71)
            have ra := Row.alloc (Row.new W1 60 zOgC) (.cells zHalf.toArray 71)
            have rb : Row ((W1.alloc (.cells zOgC.toArray 60)).alloc (.cells zHalf.toArray 71)) (W1.heap.size + 1) 71 zHalf := by have := Row.new (W1.alloc (.cells zOgC.toArray 60)) 71 zHalf; rwa [World.size_alloc] at this
            refine hK _ _ (HS.out _ hBa) ?_
            clear hK K
            try simp only [Act.put, List.setIfInBounds_toArray, List.set_cons_zero, List.set_cons_succ]
            refine wpTree_one rfl (fun K hK => ⟨by kernel_rfl, ?_⟩)
            go_simp
            refine hK _ _ (HS.out _ hBb) ?_
            clear hK K
            try simp only [Act.put, List.setIfInBounds_toArray, List.set_cons_zero, List.set_cons_succ]
            obtain ⟨W2, hW2⟩ : ∃ W2, (W1.alloc (.cells zOgC.toArray 60)).alloc (.cells zHalf.toArray 71) = W2 := ⟨_, rfl⟩
            rw [hW2] at ra rb hBb
            change wpTree _ _ _ _ _ _ _ ((W1.alloc (.cells zOgC.toArray 60)).alloc (.cells zHalf.toArray 71))
            rw [hW2]
            clear hW2 hBa
            rw [hz1] at ra rb
            have r1 := ra
            have r2 := rb
            have hB2 := hBb
            clear ra rb hBb
            have hlen : o.cells.length = 36 := og_len hos
            have hst := store_og o.cells (og_len hos) (og_one o) r1 (by simp [zOgC])
            refine wpTree_one rfl (fun K hK => ⟨by kernel_rfl, ?_⟩)
            go_simp
            refine hK _ _ (HS.out _ (below_setRow (g := wr.heap.size) hB2 (by omega) _)) ?_
            clear hK K
            try simp only [Act.put, List.setIfInBounds_toArray, List.set_cons_zero, List.set_cons_succ]
            refine wpTree_done ?_
            simp only [List.drop_succ_cons, List.drop_zero]
            have fin := CkB.store (og := o) (bt := 1) hB2 (by omega) (by omega) (by omega) r1 r2 rfl
            have k2 := Row.setRow_other r2 (g := wr.heap.size) (by omega) o.cells.toArray
            generalize W2.setRow wr.heap.size o.cells.toArray = W3 at *
            have e0 : W3.cell? ⟨wr.heap.size + 1, 0, none⟩ = some _ := k2.cell 0
            have e1 : W3.cell? ⟨wr.heap.size + 1, 1, none⟩ = some _ := k2.cell 1
            have e2 : W3.cell? ⟨wr.heap.size + 1, 2, none⟩ = some _ := k2.cell 2
            have e3 : W3.cell? ⟨wr.heap.size + 1, 3, none⟩ = some _ := k2.cell 3
            have ff := fun i => Row.frozen k2 i
            have FIN := Lib.hid fin
            clear fin hst r1 r2 k2 hB2
            go_wp2_with fail
            go_meet
            case rel => exact ⟨_, _, rfl, rfl, FIN.out⟩
          · go_simp
            have hBa := hB1.alloc (Nat.le_of_eq hz1.symm) (.cells zHalf.toArray 71)
            have hBb := hBa.alloc (by rw [World.size_alloc]; omega) (.cells zOgC.toArray 60)
            have ra := Row.alloc (Row.new W1 71 zHalf) (.cells zOgC.toArray 60)
            have rb : Row ((W1.alloc (.cells zHalf.toArray 71)).alloc (.cells zOgC.toArray 60)) (W1.heap.size + 1) 60 zOgC := by have := Row.new (W1.alloc (.cells zHalf.toArray 71)) 60 zOgC; rwa [World.size_alloc] at this
            refine hK _ _ (HS.out _ hBa) ?_
            clear hK K
            try simp only [Act.put, List.setIfInBounds_toArray, List.set_cons_zero, List.set_cons_succ]
            refine wpTree_one rfl (fun K hK => ⟨by kernel_rfl, ?_⟩)
            go_simp
            refine hK _ _ (HS.out _ hBb) ?_
            clear hK K
            try simp only [Act.put, List.setIfInBounds_toArray, List.set_cons_zero, List.set_cons_succ]
            obtain ⟨W2, hW2⟩ : ∃ W2, (W1.alloc (.cells zHalf.toArray 71)).alloc (.cells zOgC.toArray 60) = W2 := ⟨_, rfl⟩
            rw [hW2] at ra rb hBb
            change wpTree _ _ _ _ _ _ _ ((W1.alloc (.cells zHalf.toArray 71)).alloc (.cells zOgC.toArray 60))
            rw [hW2]
            clear hW2 hBa
            rw [hz1] at ra rb
            have r1 := rb
            have r2 := ra
            have hB2 := hBb
            clear ra rb hBb
            have hlen : o.cells.length = 36 := og_len hos
            have hst := store_og o.cells (og_len hos) (og_one o) r1 (by simp [zOgC])
            refine wpTree_one rfl (fun K hK => ⟨by kernel_rfl, ?_⟩)
            go_simp
            refine hK _ _ (HS.out _ (below_setRow (g := (wr.heap.size + 1)) hB2 (by omega) _)) ?_
            clear hK K
            try simp only [Act.put, List.setIfInBounds_toArray, List.set_cons_zero, List.set_cons_succ]
            refine wpTree_done ?_
            simp only [List.drop_succ_cons, List.drop_zero]
            have fin := CkB.store (og := o) (bt := 1) hB2 (by omega) (by omega) (by omega) r1 r2 rfl
            have k2 := Row.setRow_other r2 (g := (wr.heap.size + 1)) (by omega) o.cells.toArray
            generalize W2.setRow (wr.heap.size + 1) o.cells.toArray = W3 at *
            have e0 : W3.cell? ⟨wr.heap.size, 0, none⟩ = some _ := k2.cell 0
            have e1 : W3.cell? ⟨wr.heap.size, 1, none⟩ = some _ := k2.cell 1
            have e2 : W3.cell? ⟨wr.heap.size, 2, none⟩ = some _ := k2.cell 2
            have e3 : W3.cell? ⟨wr.heap.size, 3, none⟩ = some _ := k2.cell 3
            have ff := fun i => Row.frozen k2 i
            have FIN := Lib.hid fin
            clear fin hst r1 r2 k2 hB2
            go_wp2_with fail
            go_meet
            case rel => exact ⟨_, _, rfl, rfl, FIN.out⟩
      case rest =>
        obtain ⟨G1, G2, rfl, rfl, hC⟩ := hcut
        have hbc : Below w.heap.size w wc := hbw.trans (hC.b.mono (by have := hbw.size; omega))
        have hbcW : Below W.heap.size W wc := hbW.trans (hC.b.mono hbW.size)
        clear d0 hrg hrh
        obtain ⟨W5, hW5⟩ : ∃ W5, wc = W5 := ⟨_, rfl⟩
        rw [hW5] at hC hbc hbcW ⊢
        clear hW5
        rcases hbt with rfl | rfl
        · obtain ⟨bd, od, had, hbd, ed⟩ := sl_at (HDL.out.below hbc) (j := k) (by rw [L3.out]; exact hk)
          subst had
          have hdl : (m.l.getD k default).length = 32 := HOK.out.l k (by rw [L3.out]; exact hk)
          have hrd : W5.rangeAt bd (od + k * 32) (encD (m.l.getD k default)) := range_sl ed (by unfold encD; rw [List.length_map]; exact hdl)
          have hCM : comN tagL o = comN tagL o := rfl
          have q1 := fun (w' : World) (hb' : Below W5.heap.size W5 w') => commitS tagL o hok (by decide) w' ((HT.out.below (hbc.trans (hb'.mono hbc.size))))
          obtain ⟨D, hD⟩ : ∃ D, m.l.getD k default = D := ⟨_, rfl⟩
          obtain ⟨C, hC2⟩ : ∃ C, comN tagL o = C := ⟨_, rfl⟩
          have hcl : C.length = 32 := by rw [← hC2]; exact comN_length _ _
          rw [hD] at hdl hrd
          rw [hC2] at q1
          have bq := fun w => runD 9998 D C hdl hcl w
          have HD2 := Lib.hid hD
          have HC2 := Lib.hid hC2
          have HQ1 := Lib.hid q1
          have hbdc : bd < W5.heap.size := by have := hbc.size; omega
          have hmc : w.heap.size < W5.heap.size := Nat.lt_of_lt_of_le hlt hbcW.size
          have rmx := R0.out.below hbcW hlt
          have hS : ∀ w', Below W5.heap.size W5 w' → w'.rangeAt G1 0 o.cells ∧ w'.rangeAt bd (od + k * 32) (D.map bv) ∧ w'.cell? ⟨G1, 0, none⟩ = some (.int .i64 o.a) ∧ w'.cell? ⟨G2, 0, none⟩ = some (.string ⟨#[108, 101, 102, 116]⟩) ∧ w'.cell? ⟨G2, 2, none⟩ = some (.func (Fn.func 49) #[] #[]) ∧ w'.cell? ⟨w.heap.size, 3, none⟩ = some (.slice (some ⟨bd, od, none⟩) n cl) := fun w' hb' => by
            have ro := hC.o.below hb' hC.o.lt
            have rg := hC.h.below hb' hC.h.lt
            exact ⟨range_row ro, range_below hrd hb' hbdc, ro.cell 0, rg.cell 0, rg.cell 2, (rmx.below hb' hmc).cell 3⟩
          have HS := Lib.hid hS
          have hS0 := hS _ (Below.refl _ W5).drew
          clear q1 hD hC2 hS hrd ed hCM
          go_upto_region 16 with fail
          go_cut [117] from 94 to 117 (fun v W' => v = .bool (!((decide (0 ≤ o.a) && decide (o.a < (n : Int))) && decide (D = C))) ∧ Below W5.heap.size W5 W')
          case first =>
            by_cases h0 : 0 ≤ o.a
            · by_cases h1 : o.a < (n : Int)
              · have H0 := Lib.hid h0
                have H1 := Lib.hid h1
                have z0 : ¬ (o.a < 0) := by omega
                have z0b : decide (o.a < 0) = false := decide_eq_false z0
                have z1b : decide (o.a ≥ (n : Int)) = false := decide_eq_false (by omega)
                have z2b : decide ((n : Int) ≤ o.a) = false := decide_eq_false (by omega)
                refine wp_region_tree 22 (.take 0 (.take 1 (.take 2 (.take 3 (.take 4 (.take 5 (.take 6 (.take 7 (.take 8 (.take 9 (.take 10 (.take 11 (.take 15 (.take 18 (.take 19 (.take 20 (.one 12 (.take 13 (.take 14 (.take 16 (.take 17 (.one 21 .done)))))))))))))))))))))) (fun w' => w'.rangeAt G1 0 o.cells ∧ w'.rangeAt bd (od + k * 32) (D.map bv) ∧ w'.cell? ⟨G1, 0, none⟩ = some (.int .i64 o.a) ∧ w'.cell? ⟨G2, 0, none⟩ = some (.string ⟨#[108, 101, 102, 116]⟩) ∧ w'.cell? ⟨G2, 2, none⟩ = some (.func (Fn.func 49) #[] #[]) ∧ w'.cell? ⟨w.heap.size, 3, none⟩ = some (.slice (some ⟨bd, od, none⟩) n cl)) (by kernel_rfl) (by kernel_rfl) (fun _ _ d _ _ h => by cases d <;> exact h) hS0 ?_
                have hB1 : Below W5.heap.size W5 W5.drew := (Below.refl _ _).drew
                generalize W5.drew = W1 at *
                iterate 15
                  refine wpTree_take (v := ?_) rfl (by kernel_rfl) (fun w hSw => ?_) ?_
                  rotate_left 1
                  · obtain ⟨k8, k9, k0, k1, k2, k3⟩ := hSw
                    clear k8 k9
                    go_simp
                    with_reducible rfl
                  simp only [Act.put, List.setIfInBounds_toArray, List.set_cons_zero, List.set_cons_succ]
                refine wpTree_take (v := .agg o.cells.toArray) rfl (by kernel_rfl) (fun w hSw => exec_load (ty := 60) (x := .tmp 16) (p := .pointer (some ⟨G1, 0, none⟩)) (by kernel_rfl) (by kernel_rfl) (run_loadAt_mid w G1 0 60 o.cells _ hSw.1 Tryz.underlying60 rfl (sizeOg hos))) ?_
                simp only [Act.put, List.setIfInBounds_toArray, List.set_cons_zero, List.set_cons_succ]
                refine wpTree_one rfl (fun K hK => ⟨by kernel_rfl, ?_⟩)
                go_simp
                go_at_call 49
                refine (half2_any _ _).mono ?_
                rintro e w' ⟨rfl, rfl⟩
                refine hK _ _ (HS.out _ hB1) ?_
                clear hK K
                try simp only [Act.put, List.setIfInBounds_toArray, List.set_cons_zero, List.set_cons_succ]
                iterate 3
                  refine wpTree_take (v := ?_) rfl (by kernel_rfl) (fun w hSw => ?_) ?_
                  rotate_left 1
                  · obtain ⟨k8, k9, k0, k1, k2, k3⟩ := hSw
                    clear k8 k9
                    go_simp
                    with_reducible rfl
                  simp only [Act.put, List.setIfInBounds_toArray, List.set_cons_zero, List.set_cons_succ]
                refine wpTree_take (v := .agg (D.map bv).toArray) rfl (by kernel_rfl) (fun w hSw => exec_load (ty := 58) (x := .tmp 110) (p := .pointer (some ⟨bd, od + k * 32, none⟩)) (by kernel_rfl) (by kernel_rfl) (run_loadAt_mid w bd (od + k * 32) 58 (D.map bv) _ hSw.2.1 Tryz.underlying58 rfl (sizeDg hdl))) ?_
                simp only [Act.put, List.setIfInBounds_toArray, List.set_cons_zero, List.set_cons_succ]
                refine wpTree_one rfl (fun K hK => ⟨by kernel_rfl, ?_⟩)
                go_simp
                go_at_call 27
                refine (HQ1.out _ hB1).mono ?_
                rintro e w9 ⟨rfl, hb9⟩
                have hB9 := hB1.trans (hb9.mono hB1.size)
                refine hK _ _ (HS.out _ hB9) ?_
                clear hK K
                try simp only [Act.put, List.setIfInBounds_toArray, List.set_cons_zero, List.set_cons_succ]
                refine wpTree_done ?_
                simp only [List.drop_succ_cons, List.drop_zero]
                go_wp2_with fail
                go_meet
                case rel => exact ⟨by rw [decide_eq_true (p := 0 ≤ o.a) (by have := H0.out; omega), decide_eq_true (p := o.a < (n : Int)) (by have := H1.out; omega)]; rfl, hB9⟩
              · have H0 := Lib.hid h0
                have H1 := Lib.hid h1
                have z0b : decide (o.a < 0) = false := decide_eq_false (by omega)
                have z1b : decide (o.a ≥ (n : Int)) = true := decide_eq_true (by omega)
                have z2b : decide ((n : Int) ≤ o.a) = true := decide_eq_true (by omega)
                have z0 : ¬ (o.a < 0) := by omega
                have z1 : (n : Int) ≤ o.a := by omega
                have g0 : W5.cell? ⟨G1, 0, none⟩ = some (.int .i64 o.a) := hC.o.cell 0
                go_quiet (fail)
                go_wp2_with fail
                go_meet
                case rel => exact ⟨by rw [decide_eq_true (p := 0 ≤ o.a) (by have := H0.out; omega), decide_eq_false (p := o.a < (n : Int)) (by have := H1.out; omega)]; rfl, below_drewN _ _ _⟩
            · have H0 := Lib.hid h0
              have z0b : decide (o.a < 0) = true := decide_eq_true (by omega)
              have z0 : o.a < 0 := by omega
              have g0 : W5.cell? ⟨G1, 0, none⟩ = some (.int .i64 o.a) := hC.o.cell 0
              go_quiet (fail)
              go_wp2_with fail
              go_meet
              case rel => exact ⟨by rw [decide_eq_false (p := 0 ≤ o.a) (by have := H0.out; omega)]; rfl, below_drewN _ _ _⟩
          case rest =>
            obtain ⟨rfl, hb16⟩ := hcut
            have hC6 := hC.below hb16
            have hb6 : Below w.heap.size w wc := hbc.trans (hb16.mono hbc.size)
            have hb6W : Below W.heap.size W wc := hbcW.trans (hb16.mono hbcW.size)
            have hfk : fitsB key m k 0 o = ((decide (0 ≤ o.a) && decide (o.a < (n : Int))) && (decide (D = C) && (if (0 : Int) = 0 then eqSe (againC key (m.i.getD o.a.toNat default) o.r) (m.m.getD k default) else eqSe (againC key (m.m.getD k default) o.r) (m.o.getD o.a.toNat default)))) := by
              rw [← HD2.out, ← HC2.out]
              unfold fitsB
              rw [HN.out]
              rfl
            rw [if_pos rfl] at hfk
            have hbadk : fitsB key m k 0 o = false → ((List.range n).all (fun j => fitsB key m j (bits.getD j default) (l.getD j default)) && decide (placesTo bits l n).Nodup) = false := fun e => by
              have : (List.range n).all (fun j => fitsB key m j (bits.getD j default) (l.getD j default)) = false := by
                rw [List.all_eq_false]
                exact ⟨k, List.mem_range.2 hk, by rw [HBB.out, HOO.out, e]; decide⟩
              rw [this, Bool.false_and]
            obtain ⟨bb, hbb⟩ : ∃ bb, ((decide (0 ≤ o.a) && decide (o.a < (n : Int))) && decide (D = C)) = bb := ⟨_, rfl⟩
            rw [hbb]
            cases bb
            · have hF := hbadk (by rw [hfk]; rw [← Bool.and_assoc, hbb, Bool.false_and])
              have HF := Lib.hid hF
              clear hF hfk hbadk hbb bq hown hall
              go_wp2_with fail
              go_ret
              exact ⟨by rw [HF.out]; rfl, hb6⟩
            · have ha : 0 ≤ o.a ∧ o.a < (n : Int) := by
                simp only [Bool.and_eq_true, decide_eq_true_iff] at hbb
                exact hbb.1
              rw [← Bool.and_assoc, hbb, Bool.true_and] at hfk
              have rm6 := R0.out.below hb6W hlt
              have z0 : wc.cell? ⟨w.heap.size, 0, none⟩ = some _ := rm6.cell 0
              have z1 : wc.cell? ⟨w.heap.size, 1, none⟩ = some _ := rm6.cell 1
              have q7 := half3_any w.heap.size o k _ _ _ _ _ _ m.i m.m wc z0 z1 rm6.lt (by have := HI.out.below hb6; exact this.mono hb6.size) (by have := HM.out.below hb6; exact this.mono hb6.size) ⟨ha.1, by rw [HN.out]; exact ha.2⟩ (by rw [L1.out]; exact hk) hos
              have q8 := fun w => again_any key (m.i.getD o.a.toNat default) o.r w
              obtain ⟨X, hX⟩ : ∃ X, (m.i.getD o.a.toNat default) = X := ⟨_, rfl⟩
              obtain ⟨Y, hY⟩ : ∃ Y, (m.m.getD k default) = Y := ⟨_, rfl⟩
              rw [hX, hY] at hfk
              rw [hX] at q8
              rw [hX, hY] at q7
              obtain ⟨Z, hZ⟩ : ∃ Z, againC key X o.r = Z := ⟨_, rfl⟩
              obtain ⟨ez, hez⟩ : ∃ ez, againE key X = ez := ⟨_, rfl⟩
              rw [hZ, hez] at q8
              rw [hZ] at hfk
              have bq2 := fun w => runS Z Y w
              unfold Se.val Tr.val at q8
              unfold Se.val at q7 bq2
              have Q7 := Lib.hid q7
              have Q8 := Lib.hid q8
              have HFK := Lib.hid hfk
              have HBK := Lib.hid hbadk
              have HA := Lib.hid ha
              have HC6 := Lib.hid hC6
              have x3 : wc.cell? ⟨G2, 3, none⟩ = some (.func (Fn.func 50) #[] #[]) := hC6.h.cell 3
              have hrO := range_row hC6.o
              clear q7 q8 hfk hbadk hbb bq ha hX hY hZ hez z0 z1 hC6
              go_upto_region 19 with (first
                | (refine wpList_load_row rfl 60 _ rfl G1 0 o.cells rfl hrO Tryz.underlying60 rfl (sizeOg hos) ?_)
                | (go_at_call 50; (with_reducible refine Q7.out.mono ?_); rintro e w7 ⟨rfl, hb7'⟩))
              have hC7 := HC6.out.below hb7'
              have hb7 : Below w.heap.size w w7 := hb6.trans (hb7'.mono hb6.size)
              have t18 := (Row.new w7 45 X.cells).alloc (.cells Y.cells.toArray 45)
              have t19 : Row ((w7.alloc (.cells X.cells.toArray 45)).alloc (.cells Y.cells.toArray 45)) (w7.heap.size + 1) 45 Y.cells := by have := Row.new (w7.alloc (.cells X.cells.toArray 45)) 45 Y.cells; rwa [World.size_alloc] at this
              have hb8' := ((Below.refl _ w7).alloc (Nat.le_refl _) (.cells X.cells.toArray 45)).alloc (by simp) (.cells Y.cells.toArray 45)
              have hC8 := hC7.below hb8'
              have hb8 : Below w.heap.size w ((w7.alloc (.cells X.cells.toArray 45)).alloc (.cells Y.cells.toArray 45)) := hb7.trans (hb8'.mono hb7.size)
              obtain ⟨W8, hW8⟩ : ∃ W8, (w7.alloc (.cells X.cells.toArray 45)).alloc (.cells Y.cells.toArray 45) = W8 := ⟨_, rfl⟩
              rw [hW8] at t18 t19 hC8 hb8
              refine (show _ = W8 from hW8) ▸ ?_
              clear hW8 hb8' hC7 hb7 hrO x3
              generalize w7.heap.size = g7 at *
              obtain ⟨a0, a1, a2, a3, a4, a5⟩ := st6 t18
              have o1' : W8.cell? ⟨G1, 1, none⟩ = some (.int .i64 o.r.p) := hC8.o.cell 1
              have o2' : W8.cell? ⟨G1, 2, none⟩ = some (.int .i64 o.r.q) := hC8.o.cell 2
              have o3' : W8.cell? ⟨G1, 3, none⟩ = some (.int .i64 o.r.r) := hC8.o.cell 3
              go_upto_region 20 with (go_at_call 25; (with_reducible refine (Q8.out _).mono ?_); rintro e w9 ⟨rfl, hb9'⟩)
              have hb9 := hb8.trans (hb9'.mono hb8.size)
              have t20 := Row.new w9 45 Z.cells
              have t19' := (t19.below hb9' t19.lt).alloc (.cells Z.cells.toArray 45)
              have hC9 := (hC8.below hb9').below (below_alloc' w9 (.cells Z.cells.toArray 45))
              have hb10 : Below w.heap.size w (w9.alloc (.cells Z.cells.toArray 45)) := hb9.alloc hb9.size _
              obtain ⟨W9, hW9⟩ : ∃ W9, w9.alloc (.cells Z.cells.toArray 45) = W9 := ⟨_, rfl⟩
              rw [hW9] at t20 t19' hC9 hb10
              refine (show _ = W9 from hW9) ▸ ?_
              clear hW9 hb9 hb9' hC8 t19 t18 a0 a1 a2 a3 a4 a5 o1' o2' o3'
              generalize w9.heap.size = g9 at *
              obtain ⟨a0, a1, a2, a3, a4, a5⟩ := st6 t20
              obtain ⟨e0, e1, e2, e3, e4, e5⟩ := st6 t19'
              obtain ⟨eb, heb⟩ : ∃ eb, eqSe Z Y = eb := ⟨_, rfl⟩
              rw [heb] at bq2
              have HEB := Lib.hid heb
              clear heb t20 t19'
              cases eb
              · have hF := HBK.out (by rw [HFK.out, HEB.out])
                have HF := Lib.hid hF
                clear hF hown hall
                go_wp2_with fail
                go_ret
                exact ⟨by rw [HF.out]; rfl, hb10⟩
              · have oa : W9.cell? ⟨G1, 0, none⟩ = some (.int .i64 o.a) := hC9.o.cell 0
                have hown9 : W9.ownsRow W4.heap.size 84 2 u13 k ((placesTo bits l k).flatMap encPr) := World.ownsRow.kept hown (grown_below' hC9.b none) (Classical.em _)
                have hBr9 : Below W4.heap.size W4 W9 := hBr.trans (hC9.b.mono hzr)
                have hsn : placesTo bits l (k + 1) = placesTo bits l k ++ [(0, o.a)] := by
                  have := map_range_snoc (fun j => (bits.getD j default, (l.getD j default).a)) k
                  rw [HBB.out, HOO.out] at this
                  exact this
                have hal2 : Hid (∀ j, j < k + 1 → fitsB key m j (bits.getD j default) (l.getD j default) = true) := fun j hj => by
                  by_cases e : j = k
                  · rw [e, HBB.out, HOO.out, HFK.out, HEB.out]
                  · exact hall.out j (by omega)
                have HSN := Lib.hid hsn
                clear hsn hown hall
                go_upto_region 22 with fail
                clear bq2 a0 a1 a2 a3 a4 a5 e0 e1 e2 e3 e4 e5
                go_wp2_with (at_builtin; refine wpList_append_lies _ rfl _ _ 82 rfl W4.heap.size 84 ip (.agg #[.int .i64 0, .int .i64 0]) 2 16 Tryz.underlying82 hip hiz0 hiz1 hiz2 rfl (by decide) _ _ _ rfl (hown9.alloc _) ⟨W9.heap.size, 0, none⟩ 1 1 [.int .i64 0, .int .i64 o.a] rfl rfl (cells_row (Row.new W9 84 [.int .i64 0, .int .i64 o.a])) (by simp [Value.oneCell']) (by decide) (by unfold maxLen; omega) (by omega) (by have := hBr9.size; rw [World.size_alloc]; omega) _ rfl ?_; intro g1 cap1 w10 hown10 hgr hat hlt10)
                go_roundg (gk - 1)
                case measure => omega
                case rel =>
                  refine ⟨k + 1, by first | rfl | go_num, by omega, ?_, ?_, hal2⟩
                  · exact (hBr9.alloc hBr9.size _).grown hgr (by have := hBr9.size; rw [World.size_alloc]; omega) (fun r e => (hown9.lt r e).1)
                  · rw [HSN.out, List.flatMap_append]
                    exact hown10
        · obtain ⟨bd, od, had, hbd, ed⟩ := sl_at (HDR.out.below hbc) (j := k) (by rw [L4.out]; exact hk)
          subst had
          have hdl : (m.r.getD k default).length = 32 := HOK.out.r k (by rw [L4.out]; exact hk)
          have hrd : W5.rangeAt bd (od + k * 32) (encD (m.r.getD k default)) := range_sl ed (by unfold encD; rw [List.length_map]; exact hdl)
          have hCM : comN tagR o = comN tagR o := rfl
          have q1 := fun (w' : World) (hb' : Below W5.heap.size W5 w') => commitS tagR o hok (by decide) w' ((HT.out.below (hbc.trans (hb'.mono hbc.size))))
          obtain ⟨D, hD⟩ : ∃ D, m.r.getD k default = D := ⟨_, rfl⟩
          obtain ⟨C, hC2⟩ : ∃ C, comN tagR o = C := ⟨_, rfl⟩
          have hcl : C.length = 32 := by rw [← hC2]; exact comN_length _ _
          rw [hD] at hdl hrd
          rw [hC2] at q1
          have bq := fun w => runD 9998 D C hdl hcl w
          have HD2 := Lib.hid hD
          have HC2 := Lib.hid hC2
          have HQ1 := Lib.hid q1
          have hbdc : bd < W5.heap.size := by have := hbc.size; omega
          have hmc : w.heap.size < W5.heap.size := Nat.lt_of_lt_of_le hlt hbcW.size
          have rmx := R0.out.below hbcW hlt
          have hS : ∀ w', Below W5.heap.size W5 w' → w'.rangeAt G1 0 o.cells ∧ w'.rangeAt bd (od + k * 32) (D.map bv) ∧ w'.cell? ⟨G1, 0, none⟩ = some (.int .i64 o.a) ∧ w'.cell? ⟨G2, 0, none⟩ = some (.string ⟨#[114, 105, 103, 104, 116]⟩) ∧ w'.cell? ⟨G2, 2, none⟩ = some (.func (Fn.func 52) #[] #[]) ∧ w'.cell? ⟨w.heap.size, 4, none⟩ = some (.slice (some ⟨bd, od, none⟩) n cr) := fun w' hb' => by
            have ro := hC.o.below hb' hC.o.lt
            have rg := hC.h.below hb' hC.h.lt
            exact ⟨range_row ro, range_below hrd hb' hbdc, ro.cell 0, rg.cell 0, rg.cell 2, (rmx.below hb' hmc).cell 4⟩
          have HS := Lib.hid hS
          have hS0 := hS _ (Below.refl _ W5).drew
          clear q1 hD hC2 hS hrd ed hCM
          go_upto_region 16 with fail
          go_cut [117] from 94 to 117 (fun v W' => v = .bool (!((decide (0 ≤ o.a) && decide (o.a < (n : Int))) && decide (D = C))) ∧ Below W5.heap.size W5 W')
          case first =>
            by_cases h0 : 0 ≤ o.a
            · by_cases h1 : o.a < (n : Int)
              · have H0 := Lib.hid h0
                have H1 := Lib.hid h1
                have z0 : ¬ (o.a < 0) := by omega
                have z0b : decide (o.a < 0) = false := decide_eq_false z0
                have z1b : decide (o.a ≥ (n : Int)) = false := decide_eq_false (by omega)
                have z2b : decide ((n : Int) ≤ o.a) = false := decide_eq_false (by omega)
                refine wp_region_tree 22 (.take 0 (.take 1 (.take 2 (.take 3 (.take 4 (.take 5 (.take 6 (.take 7 (.take 8 (.take 9 (.take 10 (.take 11 (.take 15 (.take 18 (.take 19 (.take 20 (.one 12 (.take 13 (.take 14 (.take 16 (.take 17 (.one 21 .done)))))))))))))))))))))) (fun w' => w'.rangeAt G1 0 o.cells ∧ w'.rangeAt bd (od + k * 32) (D.map bv) ∧ w'.cell? ⟨G1, 0, none⟩ = some (.int .i64 o.a) ∧ w'.cell? ⟨G2, 0, none⟩ = some (.string ⟨#[114, 105, 103, 104, 116]⟩) ∧ w'.cell? ⟨G2, 2, none⟩ = some (.func (Fn.func 52) #[] #[]) ∧ w'.cell? ⟨w.heap.size, 4, none⟩ = some (.slice (some ⟨bd, od, none⟩) n cr)) (by kernel_rfl) (by kernel_rfl) (fun _ _ d _ _ h => by cases d <;> exact h) hS0 ?_
                have hB1 : Below W5.heap.size W5 W5.drew := (Below.refl _ _).drew
                generalize W5.drew = W1 at *
                iterate 15
                  refine wpTree_take (v := ?_) rfl (by kernel_rfl) (fun w hSw => ?_) ?_
                  rotate_left 1
                  · obtain ⟨k8, k9, k0, k1, k2, k3⟩ := hSw
                    clear k8 k9
                    go_simp
                    with_reducible rfl
                  simp only [Act.put, List.setIfInBounds_toArray, List.set_cons_zero, List.set_cons_succ]
                refine wpTree_take (v := .agg o.cells.toArray) rfl (by kernel_rfl) (fun w hSw => exec_load (ty := 60) (x := .tmp 16) (p := .pointer (some ⟨G1, 0, none⟩)) (by kernel_rfl) (by kernel_rfl) (run_loadAt_mid w G1 0 60 o.cells _ hSw.1 Tryz.underlying60 rfl (sizeOg hos))) ?_
                simp only [Act.put, List.setIfInBounds_toArray, List.set_cons_zero, List.set_cons_succ]
                refine wpTree_one rfl (fun K hK => ⟨by kernel_rfl, ?_⟩)
                go_simp
                go_at_call 52
                refine (half5_any _ _).mono ?_
                rintro e w' ⟨rfl, rfl⟩
                refine hK _ _ (HS.out _ hB1) ?_
                clear hK K
                try simp only [Act.put, List.setIfInBounds_toArray, List.set_cons_zero, List.set_cons_succ]
                iterate 3
                  refine wpTree_take (v := ?_) rfl (by kernel_rfl) (fun w hSw => ?_) ?_
                  rotate_left 1
                  · obtain ⟨k8, k9, k0, k1, k2, k3⟩ := hSw
                    clear k8 k9
                    go_simp
                    with_reducible rfl
                  simp only [Act.put, List.setIfInBounds_toArray, List.set_cons_zero, List.set_cons_succ]
                refine wpTree_take (v := .agg (D.map bv).toArray) rfl (by kernel_rfl) (fun w hSw => exec_load (ty := 58) (x := .tmp 110) (p := .pointer (some ⟨bd, od + k * 32, none⟩)) (by kernel_rfl) (by kernel_rfl) (run_loadAt_mid w bd (od + k * 32) 58 (D.map bv) _ hSw.2.1 Tryz.underlying58 rfl (sizeDg hdl))) ?_
                simp only [Act.put, List.setIfInBounds_toArray, List.set_cons_zero, List.set_cons_succ]
                refine wpTree_one rfl (fun K hK => ⟨by kernel_rfl, ?_⟩)
                go_simp
                go_at_call 27
                refine (HQ1.out _ hB1).mono ?_
                rintro e w9 ⟨rfl, hb9⟩
                have hB9 := hB1.trans (hb9.mono hB1.size)
                refine hK _ _ (HS.out _ hB9) ?_
                clear hK K
                try simp only [Act.put, List.setIfInBounds_toArray, List.set_cons_zero, List.set_cons_succ]
                refine wpTree_done ?_
                simp only [List.drop_succ_cons, List.drop_zero]
                go_wp2_with fail
                go_meet
                case rel => exact ⟨by rw [decide_eq_true (p := 0 ≤ o.a) (by have := H0.out; omega), decide_eq_true (p := o.a < (n : Int)) (by have := H1.out; omega)]; rfl, hB9⟩
              · have H0 := Lib.hid h0
                have H1 := Lib.hid h1
                have z0b : decide (o.a < 0) = false := decide_eq_false (by omega)
                have z1b : decide (o.a ≥ (n : Int)) = true := decide_eq_true (by omega)
                have z2b : decide ((n : Int) ≤ o.a) = true := decide_eq_true (by omega)
                have z0 : ¬ (o.a < 0) := by omega
                have z1 : (n : Int) ≤ o.a := by omega
                have g0 : W5.cell? ⟨G1, 0, none⟩ = some (.int .i64 o.a) := hC.o.cell 0
                go_quiet (fail)
                go_wp2_with fail
                go_meet
                case rel => exact ⟨by rw [decide_eq_true (p := 0 ≤ o.a) (by have := H0.out; omega), decide_eq_false (p := o.a < (n : Int)) (by have := H1.out; omega)]; rfl, below_drewN _ _ _⟩
            · have H0 := Lib.hid h0
              have z0b : decide (o.a < 0) = true := decide_eq_true (by omega)
              have z0 : o.a < 0 := by omega
              have g0 : W5.cell? ⟨G1, 0, none⟩ = some (.int .i64 o.a) := hC.o.cell 0
              go_quiet (fail)
              go_wp2_with fail
              go_meet
              case rel => exact ⟨by rw [decide_eq_false (p := 0 ≤ o.a) (by have := H0.out; omega)]; rfl, below_drewN _ _ _⟩
          case rest =>
            obtain ⟨rfl, hb16⟩ := hcut
            have hC6 := hC.below hb16
            have hb6 : Below w.heap.size w wc := hbc.trans (hb16.mono hbc.size)
            have hb6W : Below W.heap.size W wc := hbcW.trans (hb16.mono hbcW.size)
            have hfk : fitsB key m k 1 o = ((decide (0 ≤ o.a) && decide (o.a < (n : Int))) && (decide (D = C) && (if (1 : Int) = 0 then eqSe (againC key (m.i.getD o.a.toNat default) o.r) (m.m.getD k default) else eqSe (againC key (m.m.getD k default) o.r) (m.o.getD o.a.toNat default)))) := by
              rw [← HD2.out, ← HC2.out]
              unfold fitsB
              rw [HN.out]
              rfl
            rw [if_neg (by decide)] at hfk
            have hbadk : fitsB key m k 1 o = false → ((List.range n).all (fun j => fitsB key m j (bits.getD j default) (l.getD j default)) && decide (placesTo bits l n).Nodup) = false := fun e => by
              have : (List.range n).all (fun j => fitsB key m j (bits.getD j default) (l.getD j default)) = false := by
                rw [List.all_eq_false]
                exact ⟨k, List.mem_range.2 hk, by rw [HBB.out, HOO.out, e]; decide⟩
              rw [this, Bool.false_and]
            obtain ⟨bb, hbb⟩ : ∃ bb, ((decide (0 ≤ o.a) && decide (o.a < (n : Int))) && decide (D = C)) = bb := ⟨_, rfl⟩
            rw [hbb]
            cases bb
            · have hF := hbadk (by rw [hfk]; rw [← Bool.and_assoc, hbb, Bool.false_and])
              have HF := Lib.hid hF
              clear hF hfk hbadk hbb bq hown hall
              go_wp2_with fail
              go_ret
              exact ⟨by rw [HF.out]; rfl, hb6⟩
            · have ha : 0 ≤ o.a ∧ o.a < (n : Int) := by
                simp only [Bool.and_eq_true, decide_eq_true_iff] at hbb
                exact hbb.1
              rw [← Bool.and_assoc, hbb, Bool.true_and] at hfk
              have rm6 := R0.out.below hb6W hlt
              have z0 : wc.cell? ⟨w.heap.size, 2, none⟩ = some _ := rm6.cell 2
              have z1 : wc.cell? ⟨w.heap.size, 1, none⟩ = some _ := rm6.cell 1
              have q7 := half6_any w.heap.size o k _ _ _ _ _ _ m.o m.m wc z0 z1 rm6.lt (by have := HO.out.below hb6; exact this.mono hb6.size) (by have := HM.out.below hb6; exact this.mono hb6.size) ⟨ha.1, by rw [L2.out]; exact ha.2⟩ (by rw [L1.out]; exact hk) hos
              have q8 := fun w => again_any key (m.m.getD k default) o.r w
              obtain ⟨X, hX⟩ : ∃ X, (m.m.getD k default) = X := ⟨_, rfl⟩
              obtain ⟨Y, hY⟩ : ∃ Y, (m.o.getD o.a.toNat default) = Y := ⟨_, rfl⟩
              rw [hX, hY] at hfk
              rw [hX] at q8
              rw [hX, hY] at q7
              obtain ⟨Z, hZ⟩ : ∃ Z, againC key X o.r = Z := ⟨_, rfl⟩
              obtain ⟨ez, hez⟩ : ∃ ez, againE key X = ez := ⟨_, rfl⟩
              rw [hZ, hez] at q8
              rw [hZ] at hfk
              have bq2 := fun w => runS Z Y w
              unfold Se.val Tr.val at q8
              unfold Se.val at q7 bq2
              have Q7 := Lib.hid q7
              have Q8 := Lib.hid q8
              have HFK := Lib.hid hfk
              have HBK := Lib.hid hbadk
              have HA := Lib.hid ha
              have HC6 := Lib.hid hC6
              have x3 : wc.cell? ⟨G2, 3, none⟩ = some (.func (Fn.func 53) #[] #[]) := hC6.h.cell 3
              have hrO := range_row hC6.o
              clear q7 q8 hfk hbadk hbb bq ha hX hY hZ hez z0 z1 hC6
              go_upto_region 19 with (first
                | (refine wpList_load_row rfl 60 _ rfl G1 0 o.cells rfl hrO Tryz.underlying60 rfl (sizeOg hos) ?_)
                | (go_at_call 53; (with_reducible refine Q7.out.mono ?_); rintro e w7 ⟨rfl, hb7'⟩))
              have hC7 := HC6.out.below hb7'
              have hb7 : Below w.heap.size w w7 := hb6.trans (hb7'.mono hb6.size)
              have t18 := (Row.new w7 45 X.cells).alloc (.cells Y.cells.toArray 45)
              have t19 : Row ((w7.alloc (.cells X.cells.toArray 45)).alloc (.cells Y.cells.toArray 45)) (w7.heap.size + 1) 45 Y.cells := by have := Row.new (w7.alloc (.cells X.cells.toArray 45)) 45 Y.cells; rwa [World.size_alloc] at this
              have hb8' := ((Below.refl _ w7).alloc (Nat.le_refl _) (.cells X.cells.toArray 45)).alloc (by simp) (.cells Y.cells.toArray 45)
              have hC8 := hC7.below hb8'
              have hb8 : Below w.heap.size w ((w7.alloc (.cells X.cells.toArray 45)).alloc (.cells Y.cells.toArray 45)) := hb7.trans (hb8'.mono hb7.size)
              obtain ⟨W8, hW8⟩ : ∃ W8, (w7.alloc (.cells X.cells.toArray 45)).alloc (.cells Y.cells.toArray 45) = W8 := ⟨_, rfl⟩
              rw [hW8] at t18 t19 hC8 hb8
              refine (show _ = W8 from hW8) ▸ ?_
              clear hW8 hb8' hC7 hb7 hrO x3
              generalize w7.heap.size = g7 at *
              obtain ⟨a0, a1, a2, a3, a4, a5⟩ := st6 t18
              have o1' : W8.cell? ⟨G1, 1, none⟩ = some (.int .i64 o.r.p) := hC8.o.cell 1
              have o2' : W8.cell? ⟨G1, 2, none⟩ = some (.int .i64 o.r.q) := hC8.o.cell 2
              have o3' : W8.cell? ⟨G1, 3, none⟩ = some (.int .i64 o.r.r) := hC8.o.cell 3
              go_upto_region 20 with (go_at_call 25; (with_reducible refine (Q8.out _).mono ?_); rintro e w9 ⟨rfl, hb9'⟩)
              have hb9 := hb8.trans (hb9'.mono hb8.size)
              have t20 := Row.new w9 45 Z.cells
              have t19' := (t19.below hb9' t19.lt).alloc (.cells Z.cells.toArray 45)
              have hC9 := (hC8.below hb9').below (below_alloc' w9 (.cells Z.cells.toArray 45))
              have hb10 : Below w.heap.size w (w9.alloc (.cells Z.cells.toArray 45)) := hb9.alloc hb9.size _
              obtain ⟨W9, hW9⟩ : ∃ W9, w9.alloc (.cells Z.cells.toArray 45) = W9 := ⟨_, rfl⟩
              rw [hW9] at t20 t19' hC9 hb10
              refine (show _ = W9 from hW9) ▸ ?_
              clear hW9 hb9 hb9' hC8 t19 t18 a0 a1 a2 a3 a4 a5 o1' o2' o3'
              generalize w9.heap.size = g9 at *
              obtain ⟨a0, a1, a2, a3, a4, a5⟩ := st6 t20
              obtain ⟨e0, e1, e2, e3, e4, e5⟩ := st6 t19'
              obtain ⟨eb, heb⟩ : ∃ eb, eqSe Z Y = eb := ⟨_, rfl⟩
              rw [heb] at bq2
              have HEB := Lib.hid heb
              clear heb t20 t19'
              cases eb
              · have hF := HBK.out (by rw [HFK.out, HEB.out])
                have HF := Lib.hid hF
                clear hF hown hall
                go_wp2_with fail
                go_ret
                exact ⟨by rw [HF.out]; rfl, hb10⟩
              · have oa : W9.cell? ⟨G1, 0, none⟩ = some (.int .i64 o.a) := hC9.o.cell 0
                have hown9 : W9.ownsRow W4.heap.size 84 2 u13 k ((placesTo bits l k).flatMap encPr) := World.ownsRow.kept hown (grown_below' hC9.b none) (Classical.em _)
                have hBr9 : Below W4.heap.size W4 W9 := hBr.trans (hC9.b.mono hzr)
                have hsn : placesTo bits l (k + 1) = placesTo bits l k ++ [(1, o.a)] := by
                  have := map_range_snoc (fun j => (bits.getD j default, (l.getD j default).a)) k
                  rw [HBB.out, HOO.out] at this
                  exact this
                have hal2 : Hid (∀ j, j < k + 1 → fitsB key m j (bits.getD j default) (l.getD j default) = true) := fun j hj => by
                  by_cases e : j = k
                  · rw [e, HBB.out, HOO.out, HFK.out, HEB.out]
                  · exact hall.out j (by omega)
                have HSN := Lib.hid hsn
                clear hsn hown hall
                go_upto_region 22 with fail
                clear bq2 a0 a1 a2 a3 a4 a5 e0 e1 e2 e3 e4 e5
                go_wp2_with (at_builtin; refine wpList_append_lies _ rfl _ _ 82 rfl W4.heap.size 84 ip (.agg #[.int .i64 0, .int .i64 0]) 2 16 Tryz.underlying82 hip hiz0 hiz1 hiz2 rfl (by decide) _ _ _ rfl (hown9.alloc _) ⟨W9.heap.size, 0, none⟩ 1 1 [.int .i64 1, .int .i64 o.a] rfl rfl (cells_row (Row.new W9 84 [.int .i64 1, .int .i64 o.a])) (by simp [Value.oneCell']) (by decide) (by unfold maxLen; omega) (by omega) (by have := hBr9.size; rw [World.size_alloc]; omega) _ rfl ?_; intro g1 cap1 w10 hown10 hgr hat hlt10)
                go_roundg (gk - 1)
                case measure => omega
                case rel =>
                  refine ⟨k + 1, by first | rfl | go_num, by omega, ?_, ?_, hal2⟩
                  · exact (hBr9.alloc hBr9.size _).grown hgr (by have := hBr9.size; rw [World.size_alloc]; omega) (fun r e => (hown9.lt r e).1)
                  · rw [HSN.out, List.flatMap_append]
                    exact hown10
    · obtain rfl : k = n := by omega
      have hall2 : (List.range k).all (fun j => fitsB key m j (bits.getD j default) (l.getD j default)) = true := by
        rw [List.all_eq_true]
        intro j hj
        exact hall.out j (List.mem_range.1 hj)
      have hsl : SlG 2 encPr wr wr.heap.size u13 (placesTo bits l k) := own_slM hown (fun x _ => rfl) (by simp [placesTo]) (by simp [placesTo]; omega)
      have q9 := diffP_any _ _ _ hsl
      have Q9 := Lib.hid q9
      have HAL := Lib.hid hall2
      have hbw : Below w.heap.size w wr := hBW4.trans (hBr.mono (by omega))
      clear q9 hall2 hall hown hsl
      go_wp2_with (go_at_call 36; (with_reducible refine Q9.out.mono ?_); rintro e w2 ⟨rfl, hb2⟩)
      go_ret
      exact ⟨by rw [HAL.out, Bool.true_and]; rfl, hbw.trans (hb2.mono hbw.size)⟩
end Go.Proofs.YthboebhghaabnaaGreatDoor

set_option linter.unusedSimpArgs false
set_option linter.unusedVariables false
namespace Go.Proofs.YthboebhghaabnaaGreatDoor
open Go.RowKit Fk Sha
/-! A shuffle that was opened: the ways out ahead. -/
set_option maxRecDepth 100000 in
set_option maxHeartbeats 4000000 in
theorem check_len0 (key : Int) (ai am ao al ar A A1 : Option Addr) (ci cm co cl cr c c1 n n1 n2 n3 n4 n5 n6 : Nat) (w : World) (hne : n1 ≠ n) :
    Calls Tryz.prog 12 #[.int .i64 key, .agg #[.slice ai n ci, .slice am n1 cm, .slice ao n2 co, .slice al n3 cl, .slice ar n4 cr], .slice A n5 c, .slice A1 n6 c1] w fun e w' => e = .returned (.bool false) ∧ Below w.heap.size w w' := by
  have hB := below_alloc' w (.cells #[.slice ai n ci, .slice am n1 cm, .slice ao n2 co, .slice al n3 cl, .slice ar n4 cr] 32)
  have r0 := Row.new w 32 [.slice ai n ci, .slice am n1 cm, .slice ao n2 co, .slice al n3 cl, .slice ar n4 cr]
  obtain ⟨W, hW⟩ : ∃ W, w.alloc (.cells #[.slice ai n ci, .slice am n1 cm, .slice ao n2 co, .slice al n3 cl, .slice ar n4 cr] 32) = W := ⟨_, rfl⟩
  replace r0 : Row W w.heap.size 32 [.slice ai n ci, .slice am n1 cm, .slice ao n2 co, .slice al n3 cl, .slice ar n4 cr] := hW ▸ r0
  rw [hW] at hB
  have c0 : W.cell? ⟨w.heap.size, 0, none⟩ = some _ := r0.cell 0
  have c1' : W.cell? ⟨w.heap.size, 1, none⟩ = some _ := r0.cell 1
  have c2 : W.cell? ⟨w.heap.size, 2, none⟩ = some _ := r0.cell 2
  have c3 : W.cell? ⟨w.heap.size, 3, none⟩ = some _ := r0.cell 3
  have c4 : W.cell? ⟨w.heap.size, 4, none⟩ = some _ := r0.cell 4
  have i0 := cidx0
  have i1 := cidx1
  have i2 := cidx2
  have i3 := cidx3
  have i4 := cidx4
  have i5 := cidx5
  have hz : ¬ ((n1 : Int) = n) := by omega
  clear r0 hne
  go_enter Tryz.func12, Tryz.ntmps12
  go_upto_region 1 with fail
  try rw [hW]
  clear hW
  go_wp2_with fail
  refine wp_loop_rounds 7 ?_
  rw [rounds_succ]
  go_wp2_with fail
  go_ret
  exact ⟨rfl, hB⟩
set_option maxRecDepth 100000 in
set_option maxHeartbeats 4000000 in
theorem check_len1 (key : Int) (ai am ao al ar A A1 : Option Addr) (ci cm co cl cr c c1 n n2 n3 n4 n5 n6 : Nat) (w : World) (hne : n2 ≠ n) :
    Calls Tryz.prog 12 #[.int .i64 key, .agg #[.slice ai n ci, .slice am n cm, .slice ao n2 co, .slice al n3 cl, .slice ar n4 cr], .slice A n5 c, .slice A1 n6 c1] w fun e w' => e = .returned (.bool false) ∧ Below w.heap.size w w' := by
  have hB := below_alloc' w (.cells #[.slice ai n ci, .slice am n cm, .slice ao n2 co, .slice al n3 cl, .slice ar n4 cr] 32)
  have r0 := Row.new w 32 [.slice ai n ci, .slice am n cm, .slice ao n2 co, .slice al n3 cl, .slice ar n4 cr]
  obtain ⟨W, hW⟩ : ∃ W, w.alloc (.cells #[.slice ai n ci, .slice am n cm, .slice ao n2 co, .slice al n3 cl, .slice ar n4 cr] 32) = W := ⟨_, rfl⟩
  replace r0 : Row W w.heap.size 32 [.slice ai n ci, .slice am n cm, .slice ao n2 co, .slice al n3 cl, .slice ar n4 cr] := hW ▸ r0
  rw [hW] at hB
  have c0 : W.cell? ⟨w.heap.size, 0, none⟩ = some _ := r0.cell 0
  have c1' : W.cell? ⟨w.heap.size, 1, none⟩ = some _ := r0.cell 1
  have c2 : W.cell? ⟨w.heap.size, 2, none⟩ = some _ := r0.cell 2
  have c3 : W.cell? ⟨w.heap.size, 3, none⟩ = some _ := r0.cell 3
  have c4 : W.cell? ⟨w.heap.size, 4, none⟩ = some _ := r0.cell 4
  have i0 := cidx0
  have i1 := cidx1
  have i2 := cidx2
  have i3 := cidx3
  have i4 := cidx4
  have i5 := cidx5
  have hz : ¬ ((n2 : Int) = n) := by omega
  clear r0 hne
  go_enter Tryz.func12, Tryz.ntmps12
  go_upto_region 1 with fail
  try rw [hW]
  clear hW
  go_wp2_with fail
  refine wp_loop_rounds 7 ?_
  rw [rounds_succ]
  go_wp2_with fail
  rw [rounds_succ]
  go_wp2_with fail
  go_ret
  exact ⟨rfl, hB⟩
set_option maxRecDepth 100000 in
set_option maxHeartbeats 4000000 in
theorem check_len2 (key : Int) (ai am ao al ar A A1 : Option Addr) (ci cm co cl cr c c1 n n3 n4 n5 n6 : Nat) (w : World) (hne : n3 ≠ n) :
    Calls Tryz.prog 12 #[.int .i64 key, .agg #[.slice ai n ci, .slice am n cm, .slice ao n co, .slice al n3 cl, .slice ar n4 cr], .slice A n5 c, .slice A1 n6 c1] w fun e w' => e = .returned (.bool false) ∧ Below w.heap.size w w' := by
  have hB := below_alloc' w (.cells #[.slice ai n ci, .slice am n cm, .slice ao n co, .slice al n3 cl, .slice ar n4 cr] 32)
  have r0 := Row.new w 32 [.slice ai n ci, .slice am n cm, .slice ao n co, .slice al n3 cl, .slice ar n4 cr]
  obtain ⟨W, hW⟩ : ∃ W, w.alloc (.cells #[.slice ai n ci, .slice am n cm, .slice ao n co, .slice al n3 cl, .slice ar n4 cr] 32) = W := ⟨_, rfl⟩
  replace r0 : Row W w.heap.size 32 [.slice ai n ci, .slice am n cm, .slice ao n co, .slice al n3 cl, .slice ar n4 cr] := hW ▸ r0
  rw [hW] at hB
  have c0 : W.cell? ⟨w.heap.size, 0, none⟩ = some _ := r0.cell 0
  have c1' : W.cell? ⟨w.heap.size, 1, none⟩ = some _ := r0.cell 1
  have c2 : W.cell? ⟨w.heap.size, 2, none⟩ = some _ := r0.cell 2
  have c3 : W.cell? ⟨w.heap.size, 3, none⟩ = some _ := r0.cell 3
  have c4 : W.cell? ⟨w.heap.size, 4, none⟩ = some _ := r0.cell 4
  have i0 := cidx0
  have i1 := cidx1
  have i2 := cidx2
  have i3 := cidx3
  have i4 := cidx4
  have i5 := cidx5
  have hz : ¬ ((n3 : Int) = n) := by omega
  clear r0 hne
  go_enter Tryz.func12, Tryz.ntmps12
  go_upto_region 1 with fail
  try rw [hW]
  clear hW
  go_wp2_with fail
  refine wp_loop_rounds 7 ?_
  rw [rounds_succ]
  go_wp2_with fail
  rw [rounds_succ]
  go_wp2_with fail
  rw [rounds_succ]
  go_wp2_with fail
  go_ret
  exact ⟨rfl, hB⟩
set_option maxRecDepth 100000 in
set_option maxHeartbeats 4000000 in
theorem check_len3 (key : Int) (ai am ao al ar A A1 : Option Addr) (ci cm co cl cr c c1 n n4 n5 n6 : Nat) (w : World) (hne : n4 ≠ n) :
    Calls Tryz.prog 12 #[.int .i64 key, .agg #[.slice ai n ci, .slice am n cm, .slice ao n co, .slice al n cl, .slice ar n4 cr], .slice A n5 c, .slice A1 n6 c1] w fun e w' => e = .returned (.bool false) ∧ Below w.heap.size w w' := by
  have hB := below_alloc' w (.cells #[.slice ai n ci, .slice am n cm, .slice ao n co, .slice al n cl, .slice ar n4 cr] 32)
  have r0 := Row.new w 32 [.slice ai n ci, .slice am n cm, .slice ao n co, .slice al n cl, .slice ar n4 cr]
  obtain ⟨W, hW⟩ : ∃ W, w.alloc (.cells #[.slice ai n ci, .slice am n cm, .slice ao n co, .slice al n cl, .slice ar n4 cr] 32) = W := ⟨_, rfl⟩
  replace r0 : Row W w.heap.size 32 [.slice ai n ci, .slice am n cm, .slice ao n co, .slice al n cl, .slice ar n4 cr] := hW ▸ r0
  rw [hW] at hB
  have c0 : W.cell? ⟨w.heap.size, 0, none⟩ = some _ := r0.cell 0
  have c1' : W.cell? ⟨w.heap.size, 1, none⟩ = some _ := r0.cell 1
  have c2 : W.cell? ⟨w.heap.size, 2, none⟩ = some _ := r0.cell 2
  have c3 : W.cell? ⟨w.heap.size, 3, none⟩ = some _ := r0.cell 3
  have c4 : W.cell? ⟨w.heap.size, 4, none⟩ = some _ := r0.cell 4
  have i0 := cidx0
  have i1 := cidx1
  have i2 := cidx2
  have i3 := cidx3
  have i4 := cidx4
  have i5 := cidx5
  have hz : ¬ ((n4 : Int) = n) := by omega
  clear r0 hne
  go_enter Tryz.func12, Tryz.ntmps12
  go_upto_region 1 with fail
  try rw [hW]
  clear hW
  go_wp2_with fail
  refine wp_loop_rounds 7 ?_
  rw [rounds_succ]
  go_wp2_with fail
  rw [rounds_succ]
  go_wp2_with fail
  rw [rounds_succ]
  go_wp2_with fail
  rw [rounds_succ]
  go_wp2_with fail
  go_ret
  exact ⟨rfl, hB⟩
set_option maxRecDepth 100000 in
set_option maxHeartbeats 4000000 in
theorem check_len4 (key : Int) (ai am ao al ar A A1 : Option Addr) (ci cm co cl cr c c1 n n5 n6 : Nat) (w : World) (hne : n5 ≠ n) :
    Calls Tryz.prog 12 #[.int .i64 key, .agg #[.slice ai n ci, .slice am n cm, .slice ao n co, .slice al n cl, .slice ar n cr], .slice A n5 c, .slice A1 n6 c1] w fun e w' => e = .returned (.bool false) ∧ Below w.heap.size w w' := by
  have hB := below_alloc' w (.cells #[.slice ai n ci, .slice am n cm, .slice ao n co, .slice al n cl, .slice ar n cr] 32)
  have r0 := Row.new w 32 [.slice ai n ci, .slice am n cm, .slice ao n co, .slice al n cl, .slice ar n cr]
  obtain ⟨W, hW⟩ : ∃ W, w.alloc (.cells #[.slice ai n ci, .slice am n cm, .slice ao n co, .slice al n cl, .slice ar n cr] 32) = W := ⟨_, rfl⟩
  replace r0 : Row W w.heap.size 32 [.slice ai n ci, .slice am n cm, .slice ao n co, .slice al n cl, .slice ar n cr] := hW ▸ r0
  rw [hW] at hB
  have c0 : W.cell? ⟨w.heap.size, 0, none⟩ = some _ := r0.cell 0
  have c1' : W.cell? ⟨w.heap.size, 1, none⟩ = some _ := r0.cell 1
  have c2 : W.cell? ⟨w.heap.size, 2, none⟩ = some _ := r0.cell 2
  have c3 : W.cell? ⟨w.heap.size, 3, none⟩ = some _ := r0.cell 3
  have c4 : W.cell? ⟨w.heap.size, 4, none⟩ = some _ := r0.cell 4
  have i0 := cidx0
  have i1 := cidx1
  have i2 := cidx2
  have i3 := cidx3
  have i4 := cidx4
  have i5 := cidx5
  have hz : ¬ ((n5 : Int) = n) := by omega
  clear r0 hne
  go_enter Tryz.func12, Tryz.ntmps12
  go_upto_region 1 with fail
  try rw [hW]
  clear hW
  go_wp2_with fail
  refine wp_loop_rounds 7 ?_
  rw [rounds_succ]
  go_wp2_with fail
  rw [rounds_succ]
  go_wp2_with fail
  rw [rounds_succ]
  go_wp2_with fail
  rw [rounds_succ]
  go_wp2_with fail
  rw [rounds_succ]
  go_wp2_with fail
  go_ret
  exact ⟨rfl, hB⟩
set_option maxRecDepth 100000 in
set_option maxHeartbeats 4000000 in
theorem check_len5 (key : Int) (ai am ao al ar A A1 : Option Addr) (ci cm co cl cr c c1 n n6 : Nat) (w : World) (hne : n6 ≠ n) :
    Calls Tryz.prog 12 #[.int .i64 key, .agg #[.slice ai n ci, .slice am n cm, .slice ao n co, .slice al n cl, .slice ar n cr], .slice A n c, .slice A1 n6 c1] w fun e w' => e = .returned (.bool false) ∧ Below w.heap.size w w' := by
  have hB := below_alloc' w (.cells #[.slice ai n ci, .slice am n cm, .slice ao n co, .slice al n cl, .slice ar n cr] 32)
  have r0 := Row.new w 32 [.slice ai n ci, .slice am n cm, .slice ao n co, .slice al n cl, .slice ar n cr]
  obtain ⟨W, hW⟩ : ∃ W, w.alloc (.cells #[.slice ai n ci, .slice am n cm, .slice ao n co, .slice al n cl, .slice ar n cr] 32) = W := ⟨_, rfl⟩
  replace r0 : Row W w.heap.size 32 [.slice ai n ci, .slice am n cm, .slice ao n co, .slice al n cl, .slice ar n cr] := hW ▸ r0
  rw [hW] at hB
  have c0 : W.cell? ⟨w.heap.size, 0, none⟩ = some _ := r0.cell 0
  have c1' : W.cell? ⟨w.heap.size, 1, none⟩ = some _ := r0.cell 1
  have c2 : W.cell? ⟨w.heap.size, 2, none⟩ = some _ := r0.cell 2
  have c3 : W.cell? ⟨w.heap.size, 3, none⟩ = some _ := r0.cell 3
  have c4 : W.cell? ⟨w.heap.size, 4, none⟩ = some _ := r0.cell 4
  have i0 := cidx0
  have i1 := cidx1
  have i2 := cidx2
  have i3 := cidx3
  have i4 := cidx4
  have i5 := cidx5
  have hz : ¬ ((n6 : Int) = n) := by omega
  clear r0 hne
  go_enter Tryz.func12, Tryz.ntmps12
  go_upto_region 1 with fail
  try rw [hW]
  clear hW
  go_wp2_with fail
  refine wp_loop_rounds 7 ?_
  rw [rounds_succ]
  go_wp2_with fail
  rw [rounds_succ]
  go_wp2_with fail
  rw [rounds_succ]
  go_wp2_with fail
  rw [rounds_succ]
  go_wp2_with fail
  rw [rounds_succ]
  go_wp2_with fail
  rw [rounds_succ]
  go_wp2_with fail
  go_ret
  exact ⟨rfl, hB⟩
set_option maxRecDepth 100000 in
set_option maxHeartbeats 4000000 in
theorem check_form0 (key : Int) (ai am ao al ar A A1 : Option Addr) (ci cm co cl cr c c1 n : Nat) (w : World)   (hf : vld key = false) :
    Calls Tryz.prog 12 #[.int .i64 key, .agg #[.slice ai n ci, .slice am n cm, .slice ao n co, .slice al n cl, .slice ar n cr], .slice A n c, .slice A1 n c1] w fun e w' => e = .returned (.bool false) ∧ Below w.heap.size w w' := by
  have hB := below_alloc' w (.cells #[.slice ai n ci, .slice am n cm, .slice ao n co, .slice al n cl, .slice ar n cr] 32)
  have r0 := Row.new w 32 [.slice ai n ci, .slice am n cm, .slice ao n co, .slice al n cl, .slice ar n cr]
  obtain ⟨W, hW⟩ : ∃ W, w.alloc (.cells #[.slice ai n ci, .slice am n cm, .slice ao n co, .slice al n cl, .slice ar n cr] 32) = W := ⟨_, rfl⟩
  replace r0 : Row W w.heap.size 32 [.slice ai n ci, .slice am n cm, .slice ao n co, .slice al n cl, .slice ar n cr] := hW ▸ r0
  rw [hW] at hB
  have c0 : W.cell? ⟨w.heap.size, 0, none⟩ = some _ := r0.cell 0
  have c1' : W.cell? ⟨w.heap.size, 1, none⟩ = some _ := r0.cell 1
  have c2 : W.cell? ⟨w.heap.size, 2, none⟩ = some _ := r0.cell 2
  have c3 : W.cell? ⟨w.heap.size, 3, none⟩ = some _ := r0.cell 3
  have c4 : W.cell? ⟨w.heap.size, 4, none⟩ = some _ := r0.cell 4
  have hlt := r0.lt
  have i0 := cidx0
  have i1 := cidx1
  have i2 := cidx2
  have i3 := cidx3
  have i4 := cidx4
  have i5 := cidx5
  have q1 := fun w => valid_any key w
  rw [hf] at q1
  have Q1 := Lib.hid q1
  clear q1 hf r0
  go_enter Tryz.func12, Tryz.ntmps12
  go_upto_region 1 with fail
  try rw [hW]
  clear hW
  go_wp2_with fail
  refine wp_loop_rounds 7 ?_
  rw [rounds_succ]
  go_wp2_with fail
  rw [rounds_succ]
  go_wp2_with fail
  rw [rounds_succ]
  go_wp2_with fail
  rw [rounds_succ]
  go_wp2_with fail
  rw [rounds_succ]
  go_wp2_with fail
  rw [rounds_succ]
  go_wp2_with fail
  rw [rounds_succ]
  go_wp2_with (first
    | (go_at_call 22; (with_reducible refine (Q1.out _).mono ?_); rintro e w1 ⟨rfl, rfl⟩))
  go_ret
  exact ⟨rfl, hB⟩
set_option maxRecDepth 100000 in
set_option maxHeartbeats 4000000 in
theorem check_form1 (key : Int) (ai am ao al ar A A1 : Option Addr) (ci cm co cl cr c c1 n : Nat) (w : World)  (f0 : vld key = true) (hf : 64 < n) :
    Calls Tryz.prog 12 #[.int .i64 key, .agg #[.slice ai n ci, .slice am n cm, .slice ao n co, .slice al n cl, .slice ar n cr], .slice A n c, .slice A1 n c1] w fun e w' => e = .returned (.bool false) ∧ Below w.heap.size w w' := by
  have hB := below_alloc' w (.cells #[.slice ai n ci, .slice am n cm, .slice ao n co, .slice al n cl, .slice ar n cr] 32)
  have r0 := Row.new w 32 [.slice ai n ci, .slice am n cm, .slice ao n co, .slice al n cl, .slice ar n cr]
  obtain ⟨W, hW⟩ : ∃ W, w.alloc (.cells #[.slice ai n ci, .slice am n cm, .slice ao n co, .slice al n cl, .slice ar n cr] 32) = W := ⟨_, rfl⟩
  replace r0 : Row W w.heap.size 32 [.slice ai n ci, .slice am n cm, .slice ao n co, .slice al n cl, .slice ar n cr] := hW ▸ r0
  rw [hW] at hB
  have c0 : W.cell? ⟨w.heap.size, 0, none⟩ = some _ := r0.cell 0
  have c1' : W.cell? ⟨w.heap.size, 1, none⟩ = some _ := r0.cell 1
  have c2 : W.cell? ⟨w.heap.size, 2, none⟩ = some _ := r0.cell 2
  have c3 : W.cell? ⟨w.heap.size, 3, none⟩ = some _ := r0.cell 3
  have c4 : W.cell? ⟨w.heap.size, 4, none⟩ = some _ := r0.cell 4
  have hlt := r0.lt
  have i0 := cidx0
  have i1 := cidx1
  have i2 := cidx2
  have i3 := cidx3
  have i4 := cidx4
  have i5 := cidx5
  have q1 := fun w => valid_any key w
  rw [f0] at q1
  have Q1 := Lib.hid q1
  have s1 : ((64 : Int) < n) := by omega
  clear q1 hf r0 f0
  go_enter Tryz.func12, Tryz.ntmps12
  go_upto_region 1 with fail
  try rw [hW]
  clear hW
  go_wp2_with fail
  refine wp_loop_rounds 7 ?_
  rw [rounds_succ]
  go_wp2_with fail
  rw [rounds_succ]
  go_wp2_with fail
  rw [rounds_succ]
  go_wp2_with fail
  rw [rounds_succ]
  go_wp2_with fail
  rw [rounds_succ]
  go_wp2_with fail
  rw [rounds_succ]
  go_wp2_with fail
  rw [rounds_succ]
  go_wp2_with (first
    | (go_at_call 22; (with_reducible refine (Q1.out _).mono ?_); rintro e w1 ⟨rfl, rfl⟩))
  go_ret
  exact ⟨rfl, hB⟩
set_option maxRecDepth 100000 in
set_option maxHeartbeats 4000000 in
theorem check_form2 (key : Int) (ai am ao al ar A A1 : Option Addr) (ci cm co cl cr c c1 n : Nat) (w : World) (s : List Se) (l0 : s.length = n) (k0 : SlS w w.heap.size (.slice ai n ci) s) (f0 : vld key = true) (f1 : n ≤ 64) (hf : s.all okS = false) :
    Calls Tryz.prog 12 #[.int .i64 key, .agg #[.slice ai n ci, .slice am n cm, .slice ao n co, .slice al n cl, .slice ar n cr], .slice A n c, .slice A1 n c1] w fun e w' => e = .returned (.bool false) ∧ Below w.heap.size w w' := by
  have hB := below_alloc' w (.cells #[.slice ai n ci, .slice am n cm, .slice ao n co, .slice al n cl, .slice ar n cr] 32)
  have r0 := Row.new w 32 [.slice ai n ci, .slice am n cm, .slice ao n co, .slice al n cl, .slice ar n cr]
  obtain ⟨W, hW⟩ : ∃ W, w.alloc (.cells #[.slice ai n ci, .slice am n cm, .slice ao n co, .slice al n cl, .slice ar n cr] 32) = W := ⟨_, rfl⟩
  replace r0 : Row W w.heap.size 32 [.slice ai n ci, .slice am n cm, .slice ao n co, .slice al n cl, .slice ar n cr] := hW ▸ r0
  rw [hW] at hB
  have c0 : W.cell? ⟨w.heap.size, 0, none⟩ = some _ := r0.cell 0
  have c1' : W.cell? ⟨w.heap.size, 1, none⟩ = some _ := r0.cell 1
  have c2 : W.cell? ⟨w.heap.size, 2, none⟩ = some _ := r0.cell 2
  have c3 : W.cell? ⟨w.heap.size, 3, none⟩ = some _ := r0.cell 3
  have c4 : W.cell? ⟨w.heap.size, 4, none⟩ = some _ := r0.cell 4
  have hlt := r0.lt
  have i0 := cidx0
  have i1 := cidx1
  have i2 := cidx2
  have i3 := cidx3
  have i4 := cidx4
  have i5 := cidx5
  have q1 := fun w => valid_any key w
  rw [f0] at q1
  have Q1 := Lib.hid q1
  have q2 := fun (w' : World) (hb' : Below w.heap.size w w') => formed_any s (.slice ai n ci) w' ((k0.below hb').mono hb'.size)
  rw [hf] at q2
  have Q2 := Lib.hid q2
  have s1 : ¬ ((64 : Int) < n) := by omega
  clear q1 q2 hf r0 f0 f1 l0 k0
  go_enter Tryz.func12, Tryz.ntmps12
  go_upto_region 1 with fail
  try rw [hW]
  clear hW
  go_wp2_with fail
  refine wp_loop_rounds 7 ?_
  rw [rounds_succ]
  go_wp2_with fail
  rw [rounds_succ]
  go_wp2_with fail
  rw [rounds_succ]
  go_wp2_with fail
  rw [rounds_succ]
  go_wp2_with fail
  rw [rounds_succ]
  go_wp2_with fail
  rw [rounds_succ]
  go_wp2_with fail
  rw [rounds_succ]
  go_wp2_with (first
    | (go_at_call 22; (with_reducible refine (Q1.out _).mono ?_); rintro e w1 ⟨rfl, rfl⟩)
    | (go_at_call 23; (with_reducible refine (Q2.out _ hB).mono ?_); rintro e w2 ⟨rfl, hb2⟩; have hB2 := hB.trans (hb2.mono hB.size); have g1 : w2.cell? ⟨w.heap.size, 1, none⟩ = _ := (hb2.cell (p := ⟨w.heap.size, 1, none⟩) hlt).trans c1'))
  go_ret
  exact ⟨rfl, hB2⟩
set_option maxRecDepth 100000 in
set_option maxHeartbeats 4000000 in
theorem check_form3 (key : Int) (ai am ao al ar A A1 : Option Addr) (ci cm co cl cr c c1 n : Nat) (w : World) (s : List Se) (l0 : s.length = n) (k0 : SlS w w.heap.size (.slice ai n ci) s) (s2 : List Se) (l1 : s2.length = n) (k1 : SlS w w.heap.size (.slice am n cm) s2) (f0 : vld key = true) (f1 : n ≤ 64) (f2 : s.all okS = true) (hf : s2.all okS = false) :
    Calls Tryz.prog 12 #[.int .i64 key, .agg #[.slice ai n ci, .slice am n cm, .slice ao n co, .slice al n cl, .slice ar n cr], .slice A n c, .slice A1 n c1] w fun e w' => e = .returned (.bool false) ∧ Below w.heap.size w w' := by
  have hB := below_alloc' w (.cells #[.slice ai n ci, .slice am n cm, .slice ao n co, .slice al n cl, .slice ar n cr] 32)
  have r0 := Row.new w 32 [.slice ai n ci, .slice am n cm, .slice ao n co, .slice al n cl, .slice ar n cr]
  obtain ⟨W, hW⟩ : ∃ W, w.alloc (.cells #[.slice ai n ci, .slice am n cm, .slice ao n co, .slice al n cl, .slice ar n cr] 32) = W := ⟨_, rfl⟩
  replace r0 : Row W w.heap.size 32 [.slice ai n ci, .slice am n cm, .slice ao n co, .slice al n cl, .slice ar n cr] := hW ▸ r0
  rw [hW] at hB
  have c0 : W.cell? ⟨w.heap.size, 0, none⟩ = some _ := r0.cell 0
  have c1' : W.cell? ⟨w.heap.size, 1, none⟩ = some _ := r0.cell 1
  have c2 : W.cell? ⟨w.heap.size, 2, none⟩ = some _ := r0.cell 2
  have c3 : W.cell? ⟨w.heap.size, 3, none⟩ = some _ := r0.cell 3
  have c4 : W.cell? ⟨w.heap.size, 4, none⟩ = some _ := r0.cell 4
  have hlt := r0.lt
  have i0 := cidx0
  have i1 := cidx1
  have i2 := cidx2
  have i3 := cidx3
  have i4 := cidx4
  have i5 := cidx5
  have q1 := fun w => valid_any key w
  rw [f0] at q1
  have Q1 := Lib.hid q1
  have q2 := fun (w' : World) (hb' : Below w.heap.size w w') => formed_any s (.slice ai n ci) w' ((k0.below hb').mono hb'.size)
  rw [f2] at q2
  have Q2 := Lib.hid q2
  have q3 := fun (w' : World) (hb' : Below w.heap.size w w') => formed_any s2 (.slice am n cm) w' ((k1.below hb').mono hb'.size)
  rw [hf] at q3
  have Q3 := Lib.hid q3
  have s1 : ¬ ((64 : Int) < n) := by omega
  clear q1 q2 q3 hf r0 f0 f1 f2 l0 k0 l1 k1
  go_enter Tryz.func12, Tryz.ntmps12
  go_upto_region 1 with fail
  try rw [hW]
  clear hW
  go_wp2_with fail
  refine wp_loop_rounds 7 ?_
  rw [rounds_succ]
  go_wp2_with fail
  rw [rounds_succ]
  go_wp2_with fail
  rw [rounds_succ]
  go_wp2_with fail
  rw [rounds_succ]
  go_wp2_with fail
  rw [rounds_succ]
  go_wp2_with fail
  rw [rounds_succ]
  go_wp2_with fail
  rw [rounds_succ]
  go_wp2_with (first
    | (go_at_call 22; (with_reducible refine (Q1.out _).mono ?_); rintro e w1 ⟨rfl, rfl⟩)
    | (go_at_call 23; (with_reducible refine (Q2.out _ hB).mono ?_); rintro e w2 ⟨rfl, hb2⟩; have hB2 := hB.trans (hb2.mono hB.size); have g1 : w2.cell? ⟨w.heap.size, 1, none⟩ = _ := (hb2.cell (p := ⟨w.heap.size, 1, none⟩) hlt).trans c1')
    | (go_at_call 23; (with_reducible refine (Q3.out _ hB2).mono ?_); rintro e w3 ⟨rfl, hb3⟩; replace hb3 := hb2.trans (hb3.mono hb2.size); have hB3 := hB.trans (hb3.mono hB.size); have g2 : w3.cell? ⟨w.heap.size, 2, none⟩ = _ := (hb3.cell (p := ⟨w.heap.size, 2, none⟩) hlt).trans c2))
  go_ret
  exact ⟨rfl, hB3⟩
set_option maxRecDepth 100000 in
set_option maxHeartbeats 4000000 in
theorem check_form4 (key : Int) (ai am ao al ar A A1 : Option Addr) (ci cm co cl cr c c1 n : Nat) (w : World) (s : List Se) (l0 : s.length = n) (k0 : SlS w w.heap.size (.slice ai n ci) s) (s2 : List Se) (l1 : s2.length = n) (k1 : SlS w w.heap.size (.slice am n cm) s2) (s3 : List Se) (l2 : s3.length = n) (k2 : SlS w w.heap.size (.slice ao n co) s3) (f0 : vld key = true) (f1 : n ≤ 64) (f2 : s.all okS = true) (f3 : s2.all okS = true) (hf : s3.all okS = false) :
    Calls Tryz.prog 12 #[.int .i64 key, .agg #[.slice ai n ci, .slice am n cm, .slice ao n co, .slice al n cl, .slice ar n cr], .slice A n c, .slice A1 n c1] w fun e w' => e = .returned (.bool false) ∧ Below w.heap.size w w' := by
  have hB := below_alloc' w (.cells #[.slice ai n ci, .slice am n cm, .slice ao n co, .slice al n cl, .slice ar n cr] 32)
  have r0 := Row.new w 32 [.slice ai n ci, .slice am n cm, .slice ao n co, .slice al n cl, .slice ar n cr]
  obtain ⟨W, hW⟩ : ∃ W, w.alloc (.cells #[.slice ai n ci, .slice am n cm, .slice ao n co, .slice al n cl, .slice ar n cr] 32) = W := ⟨_, rfl⟩
  replace r0 : Row W w.heap.size 32 [.slice ai n ci, .slice am n cm, .slice ao n co, .slice al n cl, .slice ar n cr] := hW ▸ r0
  rw [hW] at hB
  have c0 : W.cell? ⟨w.heap.size, 0, none⟩ = some _ := r0.cell 0
  have c1' : W.cell? ⟨w.heap.size, 1, none⟩ = some _ := r0.cell 1
  have c2 : W.cell? ⟨w.heap.size, 2, none⟩ = some _ := r0.cell 2
  have c3 : W.cell? ⟨w.heap.size, 3, none⟩ = some _ := r0.cell 3
  have c4 : W.cell? ⟨w.heap.size, 4, none⟩ = some _ := r0.cell 4
  have hlt := r0.lt
  have i0 := cidx0
  have i1 := cidx1
  have i2 := cidx2
  have i3 := cidx3
  have i4 := cidx4
  have i5 := cidx5
  have q1 := fun w => valid_any key w
  rw [f0] at q1
  have Q1 := Lib.hid q1
  have q2 := fun (w' : World) (hb' : Below w.heap.size w w') => formed_any s (.slice ai n ci) w' ((k0.below hb').mono hb'.size)
  rw [f2] at q2
  have Q2 := Lib.hid q2
  have q3 := fun (w' : World) (hb' : Below w.heap.size w w') => formed_any s2 (.slice am n cm) w' ((k1.below hb').mono hb'.size)
  rw [f3] at q3
  have Q3 := Lib.hid q3
  have q4 := fun (w' : World) (hb' : Below w.heap.size w w') => formed_any s3 (.slice ao n co) w' ((k2.below hb').mono hb'.size)
  rw [hf] at q4
  have Q4 := Lib.hid q4
  have s1 : ¬ ((64 : Int) < n) := by omega
  clear q1 q2 q3 q4 hf r0 f0 f1 f2 f3 l0 k0 l1 k1 l2 k2
  go_enter Tryz.func12, Tryz.ntmps12
  go_upto_region 1 with fail
  try rw [hW]
  clear hW
  go_wp2_with fail
  refine wp_loop_rounds 7 ?_
  rw [rounds_succ]
  go_wp2_with fail
  rw [rounds_succ]
  go_wp2_with fail
  rw [rounds_succ]
  go_wp2_with fail
  rw [rounds_succ]
  go_wp2_with fail
  rw [rounds_succ]
  go_wp2_with fail
  rw [rounds_succ]
  go_wp2_with fail
  rw [rounds_succ]
  go_wp2_with (first
    | (go_at_call 22; (with_reducible refine (Q1.out _).mono ?_); rintro e w1 ⟨rfl, rfl⟩)
    | (go_at_call 23; (with_reducible refine (Q2.out _ hB).mono ?_); rintro e w2 ⟨rfl, hb2⟩; have hB2 := hB.trans (hb2.mono hB.size); have g1 : w2.cell? ⟨w.heap.size, 1, none⟩ = _ := (hb2.cell (p := ⟨w.heap.size, 1, none⟩) hlt).trans c1')
    | (go_at_call 23; (with_reducible refine (Q3.out _ hB2).mono ?_); rintro e w3 ⟨rfl, hb3⟩; replace hb3 := hb2.trans (hb3.mono hb2.size); have hB3 := hB.trans (hb3.mono hB.size); have g2 : w3.cell? ⟨w.heap.size, 2, none⟩ = _ := (hb3.cell (p := ⟨w.heap.size, 2, none⟩) hlt).trans c2)
    | (go_at_call 23; (with_reducible refine (Q4.out _ hB3).mono ?_); rintro e w4 ⟨rfl, hb4⟩; replace hb4 := hb3.trans (hb4.mono hb3.size); have hB4 := hB.trans (hb4.mono hB.size)))
  go_ret
  exact ⟨rfl, hB4⟩
set_option maxRecDepth 100000 in
set_option maxHeartbeats 4000000 in
theorem check_form5 (key : Int) (ai am ao al ar A A1 : Option Addr) (ci cm co cl cr c c1 n : Nat) (w : World) (s : List Se) (l0 : s.length = n) (k0 : SlS w w.heap.size (.slice ai n ci) s) (s2 : List Se) (l1 : s2.length = n) (k1 : SlS w w.heap.size (.slice am n cm) s2) (s3 : List Se) (l2 : s3.length = n) (k2 : SlS w w.heap.size (.slice ao n co) s3) (bits : List Int) (l3 : bits.length = n) (k3 : SlI w w.heap.size (.slice A n c) bits) (f0 : vld key = true) (f1 : n ≤ 64) (f2 : s.all okS = true) (f3 : s2.all okS = true) (f4 : s3.all okS = true) (hf : bits.all bitB = false) :
    Calls Tryz.prog 12 #[.int .i64 key, .agg #[.slice ai n ci, .slice am n cm, .slice ao n co, .slice al n cl, .slice ar n cr], .slice A n c, .slice A1 n c1] w fun e w' => e = .returned (.bool false) ∧ Below w.heap.size w w' := by
  have hB := below_alloc' w (.cells #[.slice ai n ci, .slice am n cm, .slice ao n co, .slice al n cl, .slice ar n cr] 32)
  have r0 := Row.new w 32 [.slice ai n ci, .slice am n cm, .slice ao n co, .slice al n cl, .slice ar n cr]
  obtain ⟨W, hW⟩ : ∃ W, w.alloc (.cells #[.slice ai n ci, .slice am n cm, .slice ao n co, .slice al n cl, .slice ar n cr] 32) = W := ⟨_, rfl⟩
  replace r0 : Row W w.heap.size 32 [.slice ai n ci, .slice am n cm, .slice ao n co, .slice al n cl, .slice ar n cr] := hW ▸ r0
  rw [hW] at hB
  have c0 : W.cell? ⟨w.heap.size, 0, none⟩ = some _ := r0.cell 0
  have c1' : W.cell? ⟨w.heap.size, 1, none⟩ = some _ := r0.cell 1
  have c2 : W.cell? ⟨w.heap.size, 2, none⟩ = some _ := r0.cell 2
  have c3 : W.cell? ⟨w.heap.size, 3, none⟩ = some _ := r0.cell 3
  have c4 : W.cell? ⟨w.heap.size, 4, none⟩ = some _ := r0.cell 4
  have hlt := r0.lt
  have i0 := cidx0
  have i1 := cidx1
  have i2 := cidx2
  have i3 := cidx3
  have i4 := cidx4
  have i5 := cidx5
  have q1 := fun w => valid_any key w
  rw [f0] at q1
  have Q1 := Lib.hid q1
  have q2 := fun (w' : World) (hb' : Below w.heap.size w w') => formed_any s (.slice ai n ci) w' ((k0.below hb').mono hb'.size)
  rw [f2] at q2
  have Q2 := Lib.hid q2
  have q3 := fun (w' : World) (hb' : Below w.heap.size w w') => formed_any s2 (.slice am n cm) w' ((k1.below hb').mono hb'.size)
  rw [f3] at q3
  have Q3 := Lib.hid q3
  have q4 := fun (w' : World) (hb' : Below w.heap.size w w') => formed_any s3 (.slice ao n co) w' ((k2.below hb').mono hb'.size)
  rw [f4] at q4
  have Q4 := Lib.hid q4
  have q5 := fun (w' : World) (hb' : Below w.heap.size w w') => binary_any bits (.slice A n c) w' ((k3.below hb').mono hb'.size)
  rw [hf] at q5
  have Q5 := Lib.hid q5
  have s1 : ¬ ((64 : Int) < n) := by omega
  clear q1 q2 q3 q4 q5 hf r0 f0 f1 f2 f3 f4 l0 k0 l1 k1 l2 k2 l3 k3
  go_enter Tryz.func12, Tryz.ntmps12
  go_upto_region 1 with fail
  try rw [hW]
  clear hW
  go_wp2_with fail
  refine wp_loop_rounds 7 ?_
  rw [rounds_succ]
  go_wp2_with fail
  rw [rounds_succ]
  go_wp2_with fail
  rw [rounds_succ]
  go_wp2_with fail
  rw [rounds_succ]
  go_wp2_with fail
  rw [rounds_succ]
  go_wp2_with fail
  rw [rounds_succ]
  go_wp2_with fail
  rw [rounds_succ]
  go_wp2_with (first
    | (go_at_call 22; (with_reducible refine (Q1.out _).mono ?_); rintro e w1 ⟨rfl, rfl⟩)
    | (go_at_call 23; (with_reducible refine (Q2.out _ hB).mono ?_); rintro e w2 ⟨rfl, hb2⟩; have hB2 := hB.trans (hb2.mono hB.size); have g1 : w2.cell? ⟨w.heap.size, 1, none⟩ = _ := (hb2.cell (p := ⟨w.heap.size, 1, none⟩) hlt).trans c1')
    | (go_at_call 23; (with_reducible refine (Q3.out _ hB2).mono ?_); rintro e w3 ⟨rfl, hb3⟩; replace hb3 := hb2.trans (hb3.mono hb2.size); have hB3 := hB.trans (hb3.mono hB.size); have g2 : w3.cell? ⟨w.heap.size, 2, none⟩ = _ := (hb3.cell (p := ⟨w.heap.size, 2, none⟩) hlt).trans c2)
    | (go_at_call 23; (with_reducible refine (Q4.out _ hB3).mono ?_); rintro e w4 ⟨rfl, hb4⟩; replace hb4 := hb3.trans (hb4.mono hb3.size); have hB4 := hB.trans (hb4.mono hB.size))
    | (go_at_call 35; (with_reducible refine (Q5.out _ hB4).mono ?_); rintro e w5 ⟨rfl, hb5⟩; have hB5 := hB4.trans (hb5.mono hB4.size)))
  go_ret
  exact ⟨rfl, hB5⟩
theorem check_any (key : Int) (x : MxA) (m : Mx) (bits : List Int) (l : List Og) (v v1 : Value) (w : World) (hT : TabS w) (h : MxS w w.heap.size x m) (hb : SlI w w.heap.size v bits) (hl : SlG 36 Og.cells w w.heap.size v1 l)
    (hmo : MxOK m) (hlo : ∀ i, i < l.length → (l.getD i default).ok) :
    Calls Tryz.prog 12 #[.int .i64 key, .agg (x.cells m).toArray, v, v1] w fun e w' => e = .returned (.bool (checkB key m bits l)) ∧ Below w.heap.size w w' := by
  obtain ⟨_, A, c, rfl, _⟩ := id hb
  obtain ⟨_, A1, c1, rfl, _⟩ := id hl
  cases hlong : longB m bits l with
  | false =>
    have hcb : checkB key m bits l = false := by unfold checkB; rw [hlong]; rfl
    rw [hcb]
    unfold MxA.cells
    by_cases e1 : m.m.length = m.i.length
    · rw [e1]
      by_cases e2 : m.o.length = m.i.length
      · rw [e2]
        by_cases e3 : m.l.length = m.i.length
        · rw [e3]
          by_cases e4 : m.r.length = m.i.length
          · rw [e4]
            by_cases e5 : bits.length = m.i.length
            · rw [e5]
              by_cases e6 : l.length = m.i.length
              · exfalso
                unfold longB at hlong
                rw [decide_eq_true e1, decide_eq_true e2, decide_eq_true e3, decide_eq_true e4, decide_eq_true e5, decide_eq_true e6] at hlong
                simp at hlong
              · exact check_len5 key _ _ _ _ _ _ _ _ _ _ _ _ _ _ _ _ w e6
            · exact check_len4 key _ _ _ _ _ _ _ _ _ _ _ _ _ _ _ _ _ w e5
          · exact check_len3 key _ _ _ _ _ _ _ _ _ _ _ _ _ _ _ _ _ _ w e4
        · exact check_len2 key _ _ _ _ _ _ _ _ _ _ _ _ _ _ _ _ _ _ _ w e3
      · exact check_len1 key _ _ _ _ _ _ _ _ _ _ _ _ _ _ _ _ _ _ _ _ w e2
    · exact check_len0 key _ _ _ _ _ _ _ _ _ _ _ _ _ _ _ _ _ _ _ _ _ w e1
  | true =>
    cases hform : formB key m bits with
    | true => exact check_main key x m bits l A A1 c c1 _ w hT h hb hl hmo hlo rfl hlong hform
    | false =>
      have hcb : checkB key m bits l = false := by unfold checkB; rw [hform]; simp
      rw [hcb]
      unfold longB at hlong
      unfold formB at hform
      simp only [Bool.and_eq_true, decide_eq_true_iff] at hlong
      obtain ⟨lm, lo, ll, lr, lb, lg⟩ := hlong
      obtain ⟨hi, hm, ho, _, _⟩ := h
      unfold MxA.cells
      rw [lm] at hm
      rw [lo] at ho
      rw [lb] at hb
      rw [lm, lo, ll, lr, lb, lg]
      cases f0 : vld key with
      | false => exact check_form0 key _ _ _ _ _ _ _ _ _ _ _ _ _ _ _ w f0
      | true =>
        by_cases f1 : m.i.length ≤ 64
        · cases f2 : m.i.all okS with
          | false => exact check_form2 key _ _ _ _ _ _ _ _ _ _ _ _ _ _ _ w m.i rfl hi f0 f1 f2
          | true =>
            cases f3 : m.m.all okS with
            | false => exact check_form3 key _ _ _ _ _ _ _ _ _ _ _ _ _ _ _ w m.i rfl hi m.m lm hm f0 f1 f2 f3
            | true =>
              cases f4 : m.o.all okS with
              | false => exact check_form4 key _ _ _ _ _ _ _ _ _ _ _ _ _ _ _ w m.i rfl hi m.m lm hm m.o lo ho f0 f1 f2 f3 f4
              | true =>
                cases f5 : bits.all bitB with
                | false => exact check_form5 key _ _ _ _ _ _ _ _ _ _ _ _ _ _ _ w m.i rfl hi m.m lm hm m.o lo ho bits lb hb f0 f1 f2 f3 f4 f5
                | true => rw [f0, decide_eq_true f1, f2, f3, f4, f5] at hform; simp at hform
        · exact check_form1 key _ _ _ _ _ _ _ _ _ _ _ _ _ _ _ w f0 (by omega)
end Go.Proofs.YthboebhghaabnaaGreatDoor

set_option linter.unusedSimpArgs false
set_option linter.unusedVariables false
namespace Go.Proofs.YthboebhghaabnaaGreatDoor
open Go.RowKit Fk Sha
/-! What stands at a world and stands on. -/
def Kp (F : World → Prop) : Prop := ∀ {W W' : World}, Below W.heap.size W W' → F W → F W'
theorem Kp.and {F G : World → Prop} (h : Kp F) (k : Kp G) : Kp fun W => F W ∧ G W := fun hb hf => ⟨h hb hf.1, k hb hf.2⟩
theorem Kp.row {g : Nat} {t : TypeId} {vs : List Value} : Kp fun W => Row W g t vs := fun hb hf => hf.below hb hf.lt
theorem Kp.sl {α : Type} [Inhabited α] {m : Nat} {enc : α → List Value} {v : Value} {l : List α} : Kp fun W => SlG m enc W W.heap.size v l := fun hb hf => (hf.below hb).mono hb.size
theorem Kp.mx {x : MxA} {m : Mx} : Kp fun W => MxS W W.heap.size x m := fun hb hf => (hf.below hb).mono hb.size
theorem Kp.tn {x : TnA} {t : Tn} : Kp fun W => TnS W W.heap.size x t := fun hb hf => (hf.below hb).mono hb.size
theorem Kp.tab : Kp TabS := fun hb hf => hf.below hb
theorem Kp.from (w : World) : Kp fun W => Below w.heap.size w W := fun hb hf => hf.trans (hb.mono hf.size)
theorem Kp.new {F : World → Prop} (h : Kp F) {W : World} (hF : F W) (o : Obj) : F (W.alloc o) := h (below_alloc' W o) hF
end Go.Proofs.YthboebhghaabnaaGreatDoor
