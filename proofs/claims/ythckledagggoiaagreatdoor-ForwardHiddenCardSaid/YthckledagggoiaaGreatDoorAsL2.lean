import Derived.Test.YthckledagggoiaaGreatDoorPh
import Derived.Test.YthckledagggoiaaGreatDoorAsL1
set_option linter.unusedSimpArgs false
set_option linter.unusedVariables false
namespace Go.Proofs.YthckledagggoiaaGreatDoor
open Go.RowKit Go.MapKept Go.Shelf Fk
/-! The examples with which each statement of frankinglaw35 begins. -/
def movedE : En := ⟨9, 1, 2, 5, 7, 2097152, 0, 2097152⟩
def exL : List En := [livesE 1 1 3, livesE 2 2 3, movedE]
theorem firstA_two {f : Nat → Int} {a : Int} (h : f 1 = a) : ∃ q : Nat, q ≤ 1 ∧ firstA f a 2 = some q := by
  by_cases h0 : f 0 = a
  · exact ⟨0, by omega, firstA_some (by omega) h0 (fun q hq => by omega)⟩
  · refine ⟨1, by omega, firstA_some (by omega) h (fun q hq => ?_)⟩
    obtain rfl : q = 0 := by omega
    exact h0
theorem sortU_one (x : Int) : sortU [x] = [x] := by simp [sortU, nubI]
theorem ex_stE : stE exL 8 0 = 0 := by decide
theorem ex_liv : livK exL 3 8 0 3 = [1] := by decide
theorem ex_stM : stE exL (-1) 0 = 1 := by decide
theorem nil_stE : stE [] 0 0 = 0 := by decide
theorem nil_liv : livK [] 1 0 0 3 = [] := by decide
theorem ckE_ok {s o : Int} {ok : Bool} (hs : 1 ≤ s ∧ s < 1073741789) (hk : ok = true) (ho : 0 ≤ o ∧ o < 24) : ckE s o ok = 0 := by
  unfold ckE secK offB
  rw [decide_eq_true hs.1, decide_eq_true hs.2, decide_eq_true ho.1, decide_eq_true ho.2, hk]; rfl
theorem aliasN_bd (s p o : Int) : 1 ≤ aliasN s p o ∧ aliasN s p o ≤ 1073741789 := by
  unfold aliasN
  obtain ⟨x, hx⟩ : ∃ x, powC 4 (if 1 < aliasH s p o then aliasH s p o else 1) = x := ⟨_, rfl⟩
  have hv2 := vld_powC vld_4 (if 1 < aliasH s p o then aliasH s p o else 1)
  rw [hx] at hv2 ⊢
  have l1 := vld_lo hv2
  have l2 := vld_hi hv2
  unfold numC
  rw [if_pos hv2]
  split <;> omega
theorem sl_newE (w : World) (l : List En) (a : Array Value) (h : (l.flatMap En.cells).toArray = a) (hl : l.length ≤ 9223372036854775807) (n : Nat) (hn : n = l.length) :
    SlE (w.alloc (.cells a 49)) (w.alloc (.cells a 49)).heap.size (.slice (some ⟨w.heap.size, 0, none⟩) n n) l := by
  subst h; subst hn
  exact (Row.new w 49 (l.flatMap En.cells)).sl (fun _ => rfl) hl (by simp)
set_option maxRecDepth 100000 in
set_option maxHeartbeats 8000000 in
theorem sane35_any (w : World) (hT : TabOK w) :
    Calls Tryz.prog 26 #[] w fun e w' => e = .returned (.bool true) ∧ Below w.heap.size w w' := by
  have hA := aliasN_bd 5 1 3
  have e1 : aliasA 5 1 3 = aliasN 5 1 3 := by unfold aliasA; exact if_pos (by decide)
  have c1 := fun (W : World) (hb : Below w.heap.size w W) => alias_any 5 1 3 W (hT.below hb)
  have c2 := fun (W : World) (hb : Below w.heap.size w W) => alias_any 0 1 1 W (hT.below hb)
  have c3 := fun (W : World) (hb : Below w.heap.size w W) => alias_any 5 (-1) 1 W (hT.below hb)
  have c4 := fun (W : World) (hb : Below w.heap.size w W) => alias_any 5 1 24 W (hT.below hb)
  rw [e1, show ckE 5 3 (idP 1) = 0 from by decide] at c1
  rw [show aliasA 0 1 1 = 0 from if_neg (by decide), show ckE 0 1 (idP 1) = 110 from by decide] at c2
  rw [show aliasA 5 (-1) 1 = 0 from if_neg (by decide), show ckE 5 1 (idP (-1)) = 1 from by decide] at c3
  rw [show aliasA 5 1 24 = 0 from if_neg (by decide), show ckE 5 24 (idP 1) = 1 from by decide] at c4
  have b1 := fun (W : World) (hb : Below w.heap.size w W) => book_any 5 [] (.slice none 0 0) 3 1 0 0 W (hT.below hb) (SlG.nil_ _ _)
  rw [show bookE 5 [] 3 1 0 0 = 0 from by decide, show bookL 5 [] 3 1 0 0 = [] from by unfold bookL; rw [if_pos (by decide), show livK [] 1 0 0 (3 : Int).toNat = [] from nil_liv]; simp [sortU, nubI, bookA]] at b1
  have f1 := fun (W : World) (hb : Below w.heap.size w W) => find_any 5 0 1 7 W (hT.below hb)
  rw [show findV 5 0 1 7 = (0, false) from by unfold findV; rw [if_pos (by decide)]; rfl, show ckE 5 1 (manyP 0) = 0 from by decide] at f1
  have f2 := fun (a : Int) (W : World) (hb : Below w.heap.size w W) => find_any 5 2 3 a W (hT.below hb)
  rw [show ckE 5 3 (manyP 2) = 0 from by decide] at f2
  have f3 := fun (W : World) (hb : Below w.heap.size w W) => find_any 5 3 (-1) 7 W (hT.below hb)
  rw [show findV 5 3 (-1) 7 = (0, false) from if_neg (by decide), show ckE 5 (-1) (manyP 3) = 1 from by decide] at f3
  have b2 := fun (v : Value) (W : World) (hb : Below w.heap.size w W) (hv : SlE W W.heap.size v exL) => book_any 5 exL v 3 3 8 0 W (hT.below hb) hv
  have b3 := fun (v : Value) (W : World) (hb : Below w.heap.size w W) (hv : SlE W W.heap.size v exL) => book_any 5 exL v 1025 3 8 0 W (hT.below hb) hv
  have b4 := fun (v : Value) (W : World) (hb : Below w.heap.size w W) (hv : SlE W W.heap.size v exL) => book_any 5 exL v 3 3 (-1) 0 W (hT.below hb) hv
  rw [show bookE 5 exL 3 3 8 0 = 0 from by unfold bookE; rw [if_pos (by decide)]; exact ex_stE, show bookL 5 exL 3 3 8 0 = [aliasN 5 1 3] from by
    unfold bookL bookE; rw [if_pos (show ckE 5 3 (manyP 3) = 0 from by decide), if_pos ex_stE, show livK exL 3 8 0 (3 : Int).toNat = [1] from ex_liv]; exact sortU_one _] at b2
  rw [show bookE 5 exL 1025 3 8 0 = 1 from by unfold bookE; rw [if_neg (by decide)]; decide, show bookL 5 exL 1025 3 8 0 = [] from by unfold bookL bookE; rw [if_neg (show ¬ ckE 5 3 (manyP 1025) = 0 from by decide), if_neg (by decide)]] at b3
  rw [show bookE 5 exL 3 3 (-1) 0 = 1 from by unfold bookE; rw [if_pos (by decide)]; exact ex_stM, show bookL 5 exL 3 3 (-1) 0 = [] from by unfold bookL bookE; rw [if_pos (show ckE 5 3 (manyP 3) = 0 from by decide), ex_stM]; rfl] at b4
  obtain ⟨q, hq, hfi⟩ : ∃ q : Nat, q ≤ 1 ∧ findV 5 2 3 (aliasN 5 1 3) = ((q : Int), true) := by
    obtain ⟨q, hq, h⟩ := firstA_two (f := fun p => aliasN 5 p 3) (a := aliasN 5 1 3) rfl
    refine ⟨q, hq, ?_⟩
    unfold findV
    rw [if_pos (by decide), show (2 : Int).toNat = 2 from rfl, h]; rfl
  obtain ⟨AA, hAA⟩ : ∃ AA, aliasN 5 1 3 = AA := ⟨_, rfl⟩
  have f2' := f2 (aliasN 5 1 3)
  rw [hfi] at f2'
  rw [hAA] at c1 b2 hA f2'
  have C1 := Lib.hid c1
  have C2 := Lib.hid c2
  have C3 := Lib.hid c3
  have C4 := Lib.hid c4
  have B1 := Lib.hid b1
  have B2 := Lib.hid b2
  have B3 := Lib.hid b3
  have B4 := Lib.hid b4
  have F1 := Lib.hid f1
  have F2 := Lib.hid f2'
  have F3 := Lib.hid f3
  have HA := Lib.hid hA
  have HQ := Lib.hid hq
  have hB := Below.refl w.heap.size w
  have hlv := lives_any 9 2 5
  unfold livesE En.val at hlv
  have HLV := Lib.hid hlv
  clear c1 c2 c3 c4 b1 b2 b3 b4 f1 f2 f2' f3 hA hfi hAA e1 hT hq hlv
  go_enter Tryz.func26, Tryz.ntmps26
  go_upto_region 10 with (first
    | (go_at_call 13; (first | (with_reducible refine (C1.out _ hB).mono ?_) | (with_reducible refine (C2.out _ hB).mono ?_) | (with_reducible refine (C3.out _ hB).mono ?_) | (with_reducible refine (C4.out _ hB).mono ?_)); rintro e X ⟨rfl, hb⟩; replace hB := hB.trans (hb.mono hB.size); clear hb)
    | (go_at_call 30; (with_reducible refine (B1.out _ hB).mono ?_); rintro e X ⟨x1, rfl, hx1, hb⟩; obtain ⟨_, Ax1, cx1, rfl, _⟩ := hx1; replace hB := hB.trans (hb.mono hB.size); clear hb)
    | (go_at_call 18; (first | (with_reducible refine (F1.out _ hB).mono ?_) | (with_reducible refine (F2.out _ hB).mono ?_)); rintro e X ⟨rfl, hb⟩; replace hB := hB.trans (hb.mono hB.size); clear hb)
    | (go_at_call 72; (with_reducible refine (HLV.out _).mono ?_); rintro e X ⟨rfl, hb⟩; replace hB := hB.trans (hb.mono hB.size); clear hb))
  have rW := Row.new X 49 [.int .i64 9, .int .i64 1, .int .i64 2, .int .i64 5, .int .i64 7, .int .i64 2097152, .int .i64 0, .int .i64 2097152]
  have hBW := hB.alloc hB.size (.cells #[.int .i64 9, .int .i64 1, .int .i64 2, .int .i64 5, .int .i64 7, .int .i64 2097152, .int .i64 0, .int .i64 2097152] 49)
  obtain ⟨W, hW⟩ : ∃ W : World, (X.alloc (.cells #[.int .i64 9, .int .i64 1, .int .i64 2, .int .i64 5, .int .i64 7, .int .i64 2097152, .int .i64 0, .int .i64 2097152] 49)) = W := ⟨_, rfl⟩
  replace rW : Row W X.heap.size 49 [.int .i64 9, .int .i64 1, .int .i64 2, .int .i64 5, .int .i64 7, .int .i64 2097152, .int .i64 0, .int .i64 2097152] := hW ▸ rW
  rw [hW] at hBW ⊢
  clear hW hB C1 C2 C3 C4 B1 F1 F2
  generalize X.heap.size = gM at rW ⊢
  have hl1 := lives_any 1 1 3
  have hl2 := lives_any 2 2 3
  unfold livesE En.val at hl1 hl2
  have L1 := Lib.hid hl1
  have L2 := Lib.hid hl2
  clear hl1 hl2
  refine wp_region_det 3 (fun X => Below W.heap.size W X) (by kernel_rfl) (by kernel_rfl) (Below.refl _ _).drew ?_
  refine wpDet_call (v := .agg #[.int .i64 1, .int .i64 1, .int .i64 1, .int .i64 3, .int .i64 0, .int .i64 2097152, .int .i64 0, .int .i64 2097152]) rfl (by kernel_rfl) (fun X hX K hK => ?_) ?_
  · go_simp
    go_at_call 72
    refine (L1.out X).mono ?_
    rintro e X2 ⟨rfl, hb⟩
    exact hK _ (hX.trans (hb.mono hX.size))
  simp only [Act.put, List.getElem_toArray, List.getElem_cons_succ, List.getElem_cons_zero, List.setIfInBounds_toArray, List.set_cons_zero, List.set_cons_succ]
  refine wpDet_call (v := .agg #[.int .i64 2, .int .i64 1, .int .i64 2, .int .i64 3, .int .i64 0, .int .i64 2097152, .int .i64 0, .int .i64 2097152]) rfl (by kernel_rfl) (fun X hX K hK => ?_) ?_
  · go_simp
    go_at_call 72
    refine (L2.out X).mono ?_
    rintro e X2 ⟨rfl, hb⟩
    exact hK _ (hX.trans (hb.mono hX.size))
  simp only [Act.put, List.getElem_toArray, List.getElem_cons_succ, List.getElem_cons_zero, List.setIfInBounds_toArray, List.set_cons_zero, List.set_cons_succ]
  refine wpDet_take (v := .agg #[.int .i64 9, .int .i64 1, .int .i64 2, .int .i64 5, .int .i64 7, .int .i64 2097152, .int .i64 0, .int .i64 2097152]) rfl (by kernel_rfl) (fun X hX => ?_) ?_
  · obtain ⟨d0, d1, d2, d3, d4, d5, d6, d7⟩ := st8e (rW.below hX rW.lt)
    go_simp
  simp only [Act.put, List.getElem_toArray, List.getElem_cons_succ, List.getElem_cons_zero, List.setIfInBounds_toArray, List.set_cons_zero, List.set_cons_succ]
  refine wpDet_done (fun V hV => ?_)
  have hBV := hBW.trans (hV.mono hBW.size)
  have hsl := sl_newE V exL #[.int .i64 1, .int .i64 1, .int .i64 1, .int .i64 3, .int .i64 0, .int .i64 2097152, .int .i64 0, .int .i64 2097152, .int .i64 2, .int .i64 1, .int .i64 2, .int .i64 3, .int .i64 0, .int .i64 2097152, .int .i64 0, .int .i64 2097152, .int .i64 9, .int .i64 1, .int .i64 2, .int .i64 5, .int .i64 7, .int .i64 2097152, .int .i64 0, .int .i64 2097152] rfl (by decide) 3 rfl
  have hBL := hBV.alloc hBV.size (.cells #[.int .i64 1, .int .i64 1, .int .i64 1, .int .i64 3, .int .i64 0, .int .i64 2097152, .int .i64 0, .int .i64 2097152, .int .i64 2, .int .i64 1, .int .i64 2, .int .i64 3, .int .i64 0, .int .i64 2097152, .int .i64 0, .int .i64 2097152, .int .i64 9, .int .i64 1, .int .i64 2, .int .i64 5, .int .i64 7, .int .i64 2097152, .int .i64 0, .int .i64 2097152] 49)
  have HSL := Lib.hid hsl
  clear hsl hBV hV hBW rW L1 L2
  go_upto_region 15 with (first
    | (go_at_call 30; (with_reducible refine (B2.out _ _ hBL HSL.out).mono ?_); rintro e Z1 ⟨x1, rfl, hx1, hb1⟩; have hBZ1 := hBL.trans (hb1.mono hBL.size))
    | (go_at_call 30; (with_reducible refine (B3.out _ _ hBZ1 ((HSL.out.below hb1).mono hb1.size)).mono ?_); rintro e Z2 ⟨x2, rfl, hx2, hb2⟩; have hBZ2 := hBZ1.trans (hb2.mono hBZ1.size))
    | (go_at_call 30; (with_reducible refine (B4.out _ _ hBZ2 (((HSL.out.below hb1).mono hb1.size).below hb2 |>.mono hb2.size)).mono ?_); rintro e Z3 ⟨x3, rfl, hx3, hb3⟩; have hBZ3 := hBZ2.trans (hb3.mono hBZ2.size))
    | (go_at_call 18; (with_reducible refine (F3.out _ hBZ3).mono ?_); rintro e Z4 ⟨rfl, hb4⟩; have hBZ4 := hBZ3.trans (hb4.mono hBZ3.size)))
  have g1 : decide (1 ≤ AA) = true := decide_eq_true HA.out.1
  have g2 : decide (AA ≤ 1073741789) = true := decide_eq_true HA.out.2
  have g3 : decide ((q : Int) ≤ 1) = true := decide_eq_true (by have := HQ.out; omega)
  have hBe := below_alloc' Z4 (.cells #[.int .i64 AA] 3)
  have hx1' : SlI (Z4.alloc (.cells #[.int .i64 AA] 3)) (Z4.alloc (.cells #[.int .i64 AA] 3)).heap.size x1 [AA] :=
    ((hx1.below ((hb2.trans (hb3.mono hb2.size)).trans (hb4.mono (by have := hb2.size; have := hb3.size; omega)))).below (hBe.mono (by have := hb2.size; have := hb3.size; have := hb4.size; omega))).mono (by have := hb2.size; have := hb3.size; have := hb4.size; simp; omega)
  have hsm := same35_any [AA] [AA] x1 _ _ hx1' (sl_newI Z4 [AA] #[.int .i64 AA] rfl (by simp) 1 rfl) (by simp) (by simp)
  rw [decide_eq_true rfl] at hsm
  have HSM := Lib.hid hsm
  have HBe := Lib.hid (hBZ4.trans (hBe.mono hBZ4.size))
  clear hsm hx1' hBe hBZ4 hBZ3 hBZ2 hBZ1 hx1 hx2 hx3 hb1 hb2 hb3 hb4 HSL B2 B3 B4 F3 HLV hBL
  go_wp2_with (go_at_call 32; (with_reducible refine HSM.out.mono ?_); rintro e Z5 ⟨rfl, hb5⟩)
  go_ret
  exact ⟨rfl, HBe.out.trans (hb5.mono HBe.out.size)⟩
end Go.Proofs.YthckledagggoiaaGreatDoor
