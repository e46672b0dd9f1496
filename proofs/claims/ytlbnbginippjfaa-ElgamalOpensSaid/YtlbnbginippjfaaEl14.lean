import Derived.Test.YtlbnbginippjfaaEl13
set_option linter.unusedSimpArgs false
set_option linter.unusedVariables false
namespace Go.Proofs.Ytlbnbginippjfaa
open Go.RowKit Go.Shelf Fk

def rsC (key : Int) (t r : Tr) (i : Nat) (_ : Ci) : Ci := ⟨powC 4 (r.get i), elC (t.get i) * powC key (r.get i) % 2147483579⟩
theorem one_pow_mod (a n : Int) : 1 * powC a n % 2147483579 = powC a n := by
  have := powC_bd a n
  rw [Int.one_mul]; exact Int.emod_eq_of_lt this.1 this.2
theorem rsC_map (key : Int) (t r : Tr) : (default : Se).map (rsC key t r) = (seal0 t).map (moreC key r) := by
  simp only [Se.map, seal0, rsC, moreC, one_pow_mod, Tr.get]
  rfl
theorem wOK_all {t : Tr} (h : ∀ i, i < 3 → elE (t.get i) = 0) : wOK t = true := by
  have h0 := h 0 (by omega)
  have h1 := h 1 (by omega)
  have h2 := h 2 (by omega)
  simp [Tr.get] at h0 h1 h2
  simp [wOK, h0, h1, h2]
theorem wOK_bad {t : Tr} {i : Nat} (hi : i < 3) (h : elE (t.get i) ≠ 0) : wOK t = false := by
  rcases (show i = 0 ∨ i = 1 ∨ i = 2 by omega) with rfl | rfl | rfl <;> simp [Tr.get] at h <;> simp [wOK, h]
theorem elC_bd2 (n : Int) : 0 ≤ elC n ∧ elC n < 2147483579 := by
  unfold elC
  split
  · split <;> omega
  · omega

set_option maxRecDepth 100000 in
set_option maxHeartbeats 2000000 in
theorem rseal_no (key : Int) (t r : Tr) (w : World) (hv : vld key = false) :
    Calls Try.prog 17 #[.int .i64 key, t.val, r.val] w fun e w' => e = .returned (.tuple #[(default : Se).val, .int .i64 90]) ∧ Below w.heap.size w w' := by
  have hB : Below w.heap.size w (((w.alloc (.cells t.cells.toArray 30)).alloc (.cells r.cells.toArray 29)).alloc (.cells (default : Se).cells.toArray 34)) := (((Below.refl _ w).alloc (Nat.le_refl _) _).alloc (by simp) _).alloc (by simp; omega) _
  unfold Se.val Tr.val
  go_enter Try.func17, Try.ntmps17
  go_wp2_with (go_at_call 26; refine (refvalid_any _ _).mono ?_; rintro e w1 ⟨rfl, rfl⟩)
  exact bodyPost_ret (v := .tuple #[.agg #[.int .i64 0, .int .i64 0, .int .i64 0, .int .i64 0, .int .i64 0, .int .i64 0], .int .i64 90]) (by simp [results, Try.results17, go_sem]) rfl ⟨rfl, hB⟩

/-- the reference's own blocks -/
structure Rs (w : World) (key : Int) (t r : Tr) (k : Nat) (W : World) : Prop where
  tw : Row W w.heap.size 30 t.cells
  rr : Row W (w.heap.size + 1) 29 r.cells
  o : RowS W (w.heap.size + 1 + 1) default
  s : RowS W (w.heap.size + 1 + 1 + 1) ((default : Se).mapTo (rsC key t r) k)
  b : Below w.heap.size w W
theorem Rs.start (key : Int) (t r : Tr) (w : World) : Rs w key t r 0 ((((w.alloc (.cells t.cells.toArray 30)).alloc (.cells r.cells.toArray 29)).alloc (.cells (default : Se).cells.toArray 34)).alloc (.cells (default : Se).cells.toArray 34)) :=
  ⟨(((Row.new w _ _).alloc _).alloc _).alloc _, ((row_at (by simp) _ _).alloc _).alloc _, (row_at (by simp) _ (default : Se).cells).alloc _, row_at (by simp) _ (default : Se).cells, ((((Below.refl _ w).alloc (Nat.le_refl _) _).alloc (by simp) _).alloc (by simp; omega) _).alloc (by simp; omega) _⟩

set_option maxRecDepth 100000 in
set_option maxHeartbeats 4000000 in
theorem rseal_yes (key : Int) (t r : Tr) (w : World) (hv : vld key = true) :
    Calls Try.prog 17 #[.int .i64 key, t.val, r.val] w fun e w' => e = .returned (.tuple #[(sealC key t r).val, .int .i64 (sealE key t)]) ∧ Below w.heap.size w w' := by
  have hA := Rs.start key t r w
  obtain ⟨S, hS⟩ : ∃ S, sealC key t r = S := ⟨_, rfl⟩
  obtain ⟨E, hE⟩ : ∃ E, sealE key t = E := ⟨_, rfl⟩
  have hyes : wOK t = true → (default : Se).map (rsC key t r) = S ∧ E = 0 := fun h => by
    rw [← hS, ← hE, rsC_map]; unfold sealC sealE; rw [hv, h]; exact ⟨rfl, rfl⟩
  have hno : wOK t = false → S = default ∧ E = 100 := fun h => by
    rw [← hS, ← hE]; unfold sealC sealE; rw [hv, h]; exact ⟨rfl, rfl⟩
  rw [hS, hE]
  have HY := Lib.hid hyes
  have HN := Lib.hid hno
  have HA := Lib.hid hA
  clear hyes hno hS hE hA
  unfold Se.val Tr.val
  go_enter Try.func17, Try.ntmps17
  go_wp2_with (go_at_call 26; refine (refvalid_any _ _).mono ?_; rintro e w1 ⟨rfl, rfl⟩)
  have hb := HA.out
  obtain ⟨W0, hW0⟩ : ∃ W0 : World, ((((w.alloc (.cells #[.int .i64 t.p, .int .i64 t.q, .int .i64 t.r] 30)).alloc (.cells #[.int .i64 r.p, .int .i64 r.q, .int .i64 r.r] 29)).alloc (.cells #[.int .i64 0, .int .i64 0, .int .i64 0, .int .i64 0, .int .i64 0, .int .i64 0] 34)).alloc (.cells #[.int .i64 0, .int .i64 0, .int .i64 0, .int .i64 0, .int .i64 0, .int .i64 0] 34)) = W0 := ⟨_, rfl⟩
  rw [hW0]
  replace hb : Rs w key t r 0 W0 := by rw [← hW0]; exact hb
  clear hW0 HA
  go_loopg [9] 3 (fun g i wr => ∃ k : Nat, i = .int .i64 k ∧ k + g = 3 ∧ Rs w key t r k wr ∧ Hid (∀ i, i < k → elE (t.get i) = 0))
  case atStart => exact ⟨0, rfl, by omega, hb, fun i hi => by omega⟩
  case round =>
    clear hb
    obtain ⟨k, rfl, hk, hb, hall⟩ := hrel
    have hzz := Row.lt hb.s
    by_cases hlt : k < 3
    · have c0 := RowT_get hb.tw hlt
      have c3 := RowT_get hb.rr hlt
      have s1 : (0 : Int) ≤ k := by omega
      have s2 : (k : Int) < 3 := by omega
      have hel := fun w => refelement_any (t.get k) w
      by_cases he : elE (t.get k) = 0
      · have hnext : ∀ i, i < k + 1 → elE (t.get i) = 0 := fun i hi => by
          by_cases e : i = k
          · rw [e]; exact he
          · exact hall.out i (by omega)
        have HNX := Lib.hid hnext
        rw [he] at hel
        have i2 := elC_bd2 (t.get k)
        have hst := mapTo_set (rsC key t r) (default : Se) hlt
        have hsc := set_cells ((default : Se).mapTo (rsC key t r) k) (rsC key t r k ((default : Se).get k)) hlt
        rw [hst] at hsc
        have hmo : rsC key t r k ((default : Se).get k) = ⟨powC 4 (r.get k), elC (t.get k) * powC key (r.get k) % 2147483579⟩ := rfl
        rw [hmo] at hsc
        obtain ⟨x, hx⟩ : ∃ x, elC (t.get k) = x := ⟨_, rfl⟩
        obtain ⟨ri, hri⟩ : ∃ ri, r.get k = ri := ⟨_, rfl⟩
        obtain ⟨ti, hti⟩ : ∃ ti, t.get k = ti := ⟨_, rfl⟩
        rw [hx] at hel i2 hsc
        rw [hri] at c3 hsc
        rw [hti] at c0 hel
        have p1 := powC_bd 4 ri
        have p2 := powC_bd key ri
        have q1 := fun w => rpow10_any 4 ri w
        have q2 := fun w => rpow10_any key ri w
        generalize powC 4 ri = x1 at *
        generalize powC key ri = x2 at *
        have HSC := Lib.hid hsc
        have Q1 := Lib.hid q1
        have Q2 := Lib.hid q2
        have HEL := Lib.hid hel
        clear hst hsc hmo hx hri hti q1 q2 hel he hnext hall
        go_wp2_with (go_at_call 42; refine (HEL.out _).mono ?_; rintro e w1 ⟨rfl, rfl⟩)
        have hs : RowS wr.drew (w.heap.size + 1 + 1 + 1) ((default : Se).mapTo (rsC key t r) k) := Row.keep hb.s rfl
        have ht : Row wr.drew w.heap.size 30 t.cells := Row.keep hb.tw rfl
        have hr : Row wr.drew (w.heap.size + 1) 29 r.cells := Row.keep hb.rr rfl
        have ho : RowS wr.drew (w.heap.size + 1 + 1) default := Row.keep hb.o rfl
        have hBr : Below w.heap.size w wr.drew := hb.b.drew
        replace c3 : wr.drew.cell? ⟨w.heap.size + 1, k, none⟩ = some (.int .i64 ri) := c3
        replace hzz : w.heap.size + 1 + 1 + 1 < wr.drew.heap.size := hzz
        clear hb c0
        obtain ⟨W1, hW1⟩ : ∃ W1 : World, wr.drew = W1 := ⟨_, rfl⟩
        rw [hW1] at hs ht hr ho hBr c3 hzz
        refine wp_region_ord 13 [(1, 0), (1, 1), (1, 2), (1, 3), (1, 5), (1, 6), (1, 7), (1, 8), (1, 9), (2, 4), (2, 10), (2, 11), (1, 12)]
          (fun w' => W1 = w') (by kernel_rfl) (by kernel_rfl) (fun _ _ d _ _ h => by cases d <;> exact h) hW1.symm ?_
        rw [hW1]
        clear hW1
        iterate 9
          refine wpOrd_take (v := ?_) rfl (by rfl) (fun w hSw => ?_) ?_
          rotate_left 1
          · subst hSw
            go_simp
            with_reducible rfl
          simp only [Act.put, List.setIfInBounds_toArray, List.set_cons_zero, List.set_cons_succ]
        refine wpOrd_step rfl (fun K hK => ⟨by rfl, ?_⟩)
        go_simp
        go_at_call 43
        refine (Q1.out _).mono ?_
        rintro e w2 ⟨rfl, rfl⟩
        refine hK _ _ rfl ?_
        clear hK K
        refine wpOrd_step rfl (fun K hK => ⟨by rfl, ?_⟩)
        go_simp
        go_at_call 43
        refine (Q2.out _).mono ?_
        rintro e w2 ⟨rfl, rfl⟩
        refine hK _ _ rfl ?_
        clear hK K
        refine wpOrd_step rfl (fun K hK => ⟨by rfl, ?_⟩)
        go_simp
        go_at_call 44
        refine (rtimes10_any _ _ i2 p2 _).mono ?_
        rintro e w2 ⟨rfl, rfl⟩
        refine hK _ _ rfl ?_
        clear hK K
        refine wpOrd_take (v := ?_) rfl (by rfl) (fun w hSw => ?_) ?_
        rotate_left 1
        · go_simp
          with_reducible rfl
        simp only [Act.put, List.setIfInBounds_toArray, List.set_cons_zero, List.set_cons_succ]
        refine wpOrd_nil ?_
        simp only [List.drop_succ_cons, List.drop_zero]
        have f1 := Row.frozen hs (k * 2)
        have f3 : (W1.setCell ⟨w.heap.size + 1 + 1 + 1, k * 2, none⟩ (.int .i64 x1)).frozen? ⟨w.heap.size + 1 + 1 + 1, k * 2 + 1, none⟩ = false := Row.frozen (Row.store hs (k * 2) _) _
        obtain ⟨v1, c1⟩ : ∃ v, W1.cell? ⟨w.heap.size + 1 + 1 + 1, k * 2, none⟩ = some v := ⟨_, hs.ca hlt⟩
        obtain ⟨v2, c2⟩ : ∃ v, (W1.setCell ⟨w.heap.size + 1 + 1 + 1, k * 2, none⟩ (.int .i64 x1)).cell? ⟨w.heap.size + 1 + 1 + 1, k * 2 + 1, none⟩ = some v := ⟨_, (World.cell?_setCell_other _ _ _ _ (fun e => by injection e; omega)).trans (hs.cb hlt)⟩
        have hnew : Rs w key t r (k + 1) ((W1.setCell ⟨w.heap.size + 1 + 1 + 1, k * 2, none⟩ (.int .i64 x1)).setCell ⟨w.heap.size + 1 + 1 + 1, k * 2 + 1, none⟩ (.int .i64 (x * x2 % 2147483579))) := by
          refine ⟨Row.other (Row.other ht (by simp; omega) _) (by simp; omega) _, Row.other (Row.other hr (by simp) _) (by simp) _, Row.other (Row.other ho (by simp) _) (by simp) _, ?_, (hBr.setCell (by simp; omega) _).setCell (by simp; omega) _⟩
          show Row _ _ _ _
          rw [HSC.out]
          exact Row.store (Row.store hs (k * 2) _) (k * 2 + 1) _
        have HNEW := Lib.hid hnew
        clear hnew hs ht hr ho hBr
        go_wp2_with fail
        go_roundg (gk - 1)
        case measure => omega
        case rel => exact ⟨k + 1, by go_num, by omega, HNEW.out, HNX.out⟩
      · obtain ⟨e1, e2⟩ := HN.out (wOK_bad hlt he)
        rw [elE_one he] at hel
        generalize elC (t.get k) = x at hel
        have HEL := Lib.hid hel
        have E1 := Lib.hid e1
        have E2 := Lib.hid e2
        have ho := hb.o
        have hBr := hb.b
        obtain ⟨f0, f1, f2, f3, f4, f5⟩ := ho.free
        obtain ⟨u0, u1, u2, u3, u4, u5⟩ := ho.six
        clear hel e1 e2 he hall hb
        go_wp2_with (go_at_call 42; refine (HEL.out _).mono ?_; rintro e w1 ⟨rfl, rfl⟩)
        have h6 : Row ((((((wr.setCell ⟨w.heap.size + 1 + 1, 0, none⟩ (.int .i64 0)).setCell ⟨w.heap.size + 1 + 1, 1, none⟩ (.int .i64 0)).setCell ⟨w.heap.size + 1 + 1, 2, none⟩ (.int .i64 0)).setCell ⟨w.heap.size + 1 + 1, 3, none⟩ (.int .i64 0)).setCell ⟨w.heap.size + 1 + 1, 4, none⟩ (.int .i64 0)).setCell ⟨w.heap.size + 1 + 1, 5, none⟩ (.int .i64 0)) (w.heap.size + 1 + 1) 34 [.int .i64 0, .int .i64 0, .int .i64 0, .int .i64 0, .int .i64 0, .int .i64 0] :=
          Row.store (Row.store (Row.store (Row.store (Row.store (Row.store ho 0 _) 1 _) 2 _) 3 _) 4 _) 5 _
        have hB6 : Below w.heap.size w ((((((wr.setCell ⟨w.heap.size + 1 + 1, 0, none⟩ (.int .i64 0)).setCell ⟨w.heap.size + 1 + 1, 1, none⟩ (.int .i64 0)).setCell ⟨w.heap.size + 1 + 1, 2, none⟩ (.int .i64 0)).setCell ⟨w.heap.size + 1 + 1, 3, none⟩ (.int .i64 0)).setCell ⟨w.heap.size + 1 + 1, 4, none⟩ (.int .i64 0)).setCell ⟨w.heap.size + 1 + 1, 5, none⟩ (.int .i64 0)) :=
          (((((hBr.setCell (by simp only []; omega) _).setCell (by simp only []; omega) _).setCell (by simp only []; omega) _).setCell (by simp only []; omega) _).setCell (by simp only []; omega) _).setCell (by simp only []; omega) _
        generalize ((((((wr.setCell ⟨w.heap.size + 1 + 1, 0, none⟩ (.int .i64 0)).setCell ⟨w.heap.size + 1 + 1, 1, none⟩ (.int .i64 0)).setCell ⟨w.heap.size + 1 + 1, 2, none⟩ (.int .i64 0)).setCell ⟨w.heap.size + 1 + 1, 3, none⟩ (.int .i64 0)).setCell ⟨w.heap.size + 1 + 1, 4, none⟩ (.int .i64 0)).setCell ⟨w.heap.size + 1 + 1, 5, none⟩ (.int .i64 0)) = W6 at *
        have p0 := Row.cell h6 0
        have p1 := Row.cell h6 1
        have p2 := Row.cell h6 2
        have p3 := Row.cell h6 3
        have p4 := Row.cell h6 4
        have p5 := Row.cell h6 5
        simp only [List.getElem?_cons_zero, List.getElem?_cons_succ] at p0 p1 p2 p3 p4 p5
        exact bodyPost_ret (v := .tuple #[.agg #[.int .i64 0, .int .i64 0, .int .i64 0, .int .i64 0, .int .i64 0, .int .i64 0], .int .i64 100]) (by simp [results, Try.results17, go_sem, p0, p1, p2, p3, p4, p5]) rfl ⟨by rw [E1.out, E2.out]; rfl, hB6⟩
    · obtain rfl : k = 3 := by omega
      obtain ⟨e1, e2⟩ := HY.out (wOK_all hall.out)
      have hs := hb.s
      have ho := hb.o
      have hBr := hb.b
      rw [Se.mapTo_three, e1] at hs
      obtain ⟨f0, f1, f2, f3, f4, f5⟩ := ho.free
      obtain ⟨u0, u1, u2, u3, u4, u5⟩ := ho.six
      obtain ⟨q0, q1, q2, q3, q4, q5⟩ := hs.six
      have E2 := Lib.hid e2
      clear e1 e2 hall hb
      go_wp2_with fail
      have h6 : RowS ((((((wr.setCell ⟨w.heap.size + 1 + 1, 0, none⟩ (.int .i64 S.x.a)).setCell ⟨w.heap.size + 1 + 1, 1, none⟩ (.int .i64 S.x.b)).setCell ⟨w.heap.size + 1 + 1, 2, none⟩ (.int .i64 S.y.a)).setCell ⟨w.heap.size + 1 + 1, 3, none⟩ (.int .i64 S.y.b)).setCell ⟨w.heap.size + 1 + 1, 4, none⟩ (.int .i64 S.z.a)).setCell ⟨w.heap.size + 1 + 1, 5, none⟩ (.int .i64 S.z.b)) (w.heap.size + 1 + 1) S := Row.store (Row.store (Row.store (Row.store (Row.store (Row.store ho 0 _) 1 _) 2 _) 3 _) 4 _) 5 _
      have hB6 : Below w.heap.size w ((((((wr.setCell ⟨w.heap.size + 1 + 1, 0, none⟩ (.int .i64 S.x.a)).setCell ⟨w.heap.size + 1 + 1, 1, none⟩ (.int .i64 S.x.b)).setCell ⟨w.heap.size + 1 + 1, 2, none⟩ (.int .i64 S.y.a)).setCell ⟨w.heap.size + 1 + 1, 3, none⟩ (.int .i64 S.y.b)).setCell ⟨w.heap.size + 1 + 1, 4, none⟩ (.int .i64 S.z.a)).setCell ⟨w.heap.size + 1 + 1, 5, none⟩ (.int .i64 S.z.b)) := (((((hBr.setCell (by simp only []; omega) _).setCell (by simp only []; omega) _).setCell (by simp only []; omega) _).setCell (by simp only []; omega) _).setCell (by simp only []; omega) _).setCell (by simp only []; omega) _
      generalize ((((((wr.setCell ⟨w.heap.size + 1 + 1, 0, none⟩ (.int .i64 S.x.a)).setCell ⟨w.heap.size + 1 + 1, 1, none⟩ (.int .i64 S.x.b)).setCell ⟨w.heap.size + 1 + 1, 2, none⟩ (.int .i64 S.y.a)).setCell ⟨w.heap.size + 1 + 1, 3, none⟩ (.int .i64 S.y.b)).setCell ⟨w.heap.size + 1 + 1, 4, none⟩ (.int .i64 S.z.a)).setCell ⟨w.heap.size + 1 + 1, 5, none⟩ (.int .i64 S.z.b)) = W6 at *
      obtain ⟨p0, p1, p2, p3, p4, p5⟩ := h6.six
      exact bodyPost_ret (v := .tuple #[.agg #[.int .i64 S.x.a, .int .i64 S.x.b, .int .i64 S.y.a, .int .i64 S.y.b, .int .i64 S.z.a, .int .i64 S.z.b], .int .i64 0]) (by simp [results, Try.results17, go_sem, p0, p1, p2, p3, p4, p5]) rfl ⟨by rw [E2.out], hB6⟩
theorem rseal_any (key : Int) (t r : Tr) (w : World) :
    Calls Try.prog 17 #[.int .i64 key, t.val, r.val] w fun e w' => e = .returned (.tuple #[(sealC key t r).val, .int .i64 (sealE key t)]) ∧ Below w.heap.size w w' := by
  cases hv : vld key with
  | false =>
    have e1 : sealC key t r = default := by unfold sealC; rw [hv]; rfl
    have e2 : sealE key t = 90 := by unfold sealE; rw [hv]; rfl
    rw [e1, e2]; exact rseal_no key t r w hv
  | true => exact rseal_yes key t r w hv
end Go.Proofs.Ytlbnbginippjfaa
