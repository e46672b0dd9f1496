import Derived.Test.YtlbnbginippjfaaEl12
set_option linter.unusedSimpArgs false
set_option linter.unusedVariables false
namespace Go.Proofs.Ytlbnbginippjfaa
open Go.RowKit Go.Shelf Fk

theorem z6_row {w : World} {n : Nat} (h : w.heap.size = n) : RowS (w.alloc (.cells #[.int .i64 0, .int .i64 0, .int .i64 0, .int .i64 0, .int .i64 0, .int .i64 0] 34)) n default := row_at h _ (default : Se).cells

set_option maxRecDepth 100000 in
set_option maxHeartbeats 2000000 in
theorem ragain_no (key : Int) (s : Se) (r : Tr) (w : World) (hv : vld key = false) :
    Calls Try.prog 19 #[.int .i64 key, s.val, r.val] w fun e w' => e = .returned (.tuple #[(default : Se).val, .int .i64 90]) ∧ Below w.heap.size w w' := by
  have hA := Ag.start s r w
  unfold Se.val Tr.val
  go_enter Try.func19, Try.ntmps19
  go_wp2_with (go_at_call 26; refine (refvalid_any _ _).mono ?_; rintro e w1 ⟨rfl, rfl⟩)
  exact bodyPost_ret (v := .tuple #[.agg #[.int .i64 0, .int .i64 0, .int .i64 0, .int .i64 0, .int .i64 0, .int .i64 0], .int .i64 90]) (by simp [results, Try.results19, go_sem]) rfl ⟨rfl, hA.b⟩
set_option maxRecDepth 100000 in
set_option maxHeartbeats 2000000 in
theorem ragain_bad (key : Int) (s : Se) (r : Tr) (w : World) (hv : vld key = true) (hc : okS s = false) :
    Calls Try.prog 19 #[.int .i64 key, s.val, r.val] w fun e w' => e = .returned (.tuple #[(default : Se).val, .int .i64 100]) ∧ Below w.heap.size w w' := by
  have hch := fun w => rcheck_any s w
  have e3 : chS s = 100 := by unfold chS; rw [hc]; rfl
  rw [e3] at hch
  have hA := fun (W : World) (hb : Below (((w.alloc (.cells s.cells.toArray 34)).alloc (.cells r.cells.toArray 29)).alloc (.cells (default : Se).cells.toArray 34)).heap.size (((w.alloc (.cells s.cells.toArray 34)).alloc (.cells r.cells.toArray 29)).alloc (.cells (default : Se).cells.toArray 34)) W) => (Ag.start s r w).below hb
  unfold Se.val at hch
  obtain ⟨D, hD⟩ : ∃ D : Se, (⟨⟨0, 0⟩, ⟨0, 0⟩, ⟨0, 0⟩⟩ : Se) = D := ⟨_, rfl⟩
  have HD := Lib.hid hD
  have HCH := Lib.hid hch
  have HA := Lib.hid hA
  clear e3 hch hA hD
  unfold Se.val Tr.val
  go_enter Try.func19, Try.ntmps19
  go_wp2_with (first
    | (go_at_call 26; refine (refvalid_any _ _).mono ?_; rintro e w1 ⟨rfl, rfl⟩)
    | (go_at_call 27; refine (HCH.out _).mono ?_; rintro e w1 ⟨rfl, hb⟩; replace hb := HA.out _ hb; have ho := hb.o; obtain ⟨q0, q1, q2, q3, q4, q5⟩ := ho.six; obtain ⟨f0, f1, f2, f3, f4, f5⟩ := ho.free))
  have h6 : Row ((((((w1.setCell ⟨w.heap.size + 1 + 1, 0, none⟩ (.int .i64 0)).setCell ⟨w.heap.size + 1 + 1, 1, none⟩ (.int .i64 0)).setCell ⟨w.heap.size + 1 + 1, 2, none⟩ (.int .i64 0)).setCell ⟨w.heap.size + 1 + 1, 3, none⟩ (.int .i64 0)).setCell ⟨w.heap.size + 1 + 1, 4, none⟩ (.int .i64 0)).setCell ⟨w.heap.size + 1 + 1, 5, none⟩ (.int .i64 0)) (w.heap.size + 1 + 1) 34 [.int .i64 0, .int .i64 0, .int .i64 0, .int .i64 0, .int .i64 0, .int .i64 0] :=
    Row.store (Row.store (Row.store (Row.store (Row.store (Row.store ho 0 _) 1 _) 2 _) 3 _) 4 _) 5 _
  have hB6 : Below w.heap.size w ((((((w1.setCell ⟨w.heap.size + 1 + 1, 0, none⟩ (.int .i64 0)).setCell ⟨w.heap.size + 1 + 1, 1, none⟩ (.int .i64 0)).setCell ⟨w.heap.size + 1 + 1, 2, none⟩ (.int .i64 0)).setCell ⟨w.heap.size + 1 + 1, 3, none⟩ (.int .i64 0)).setCell ⟨w.heap.size + 1 + 1, 4, none⟩ (.int .i64 0)).setCell ⟨w.heap.size + 1 + 1, 5, none⟩ (.int .i64 0)) :=
    (((((hb.b.setCell (by simp only []; omega) _).setCell (by simp only []; omega) _).setCell (by simp only []; omega) _).setCell (by simp only []; omega) _).setCell (by simp only []; omega) _).setCell (by simp only []; omega) _
  generalize ((((((w1.setCell ⟨w.heap.size + 1 + 1, 0, none⟩ (.int .i64 0)).setCell ⟨w.heap.size + 1 + 1, 1, none⟩ (.int .i64 0)).setCell ⟨w.heap.size + 1 + 1, 2, none⟩ (.int .i64 0)).setCell ⟨w.heap.size + 1 + 1, 3, none⟩ (.int .i64 0)).setCell ⟨w.heap.size + 1 + 1, 4, none⟩ (.int .i64 0)).setCell ⟨w.heap.size + 1 + 1, 5, none⟩ (.int .i64 0)) = W6 at *
  have p0 := Row.cell h6 0
  have p1 := Row.cell h6 1
  have p2 := Row.cell h6 2
  have p3 := Row.cell h6 3
  have p4 := Row.cell h6 4
  have p5 := Row.cell h6 5
  simp only [List.getElem?_cons_zero, List.getElem?_cons_succ] at p0 p1 p2 p3 p4 p5
  exact bodyPost_ret (v := .tuple #[.agg #[.int .i64 0, .int .i64 0, .int .i64 0, .int .i64 0, .int .i64 0, .int .i64 0], .int .i64 100]) (by simp [results, Try.results19, go_sem, p0, p1, p2, p3, p4, p5]) rfl ⟨rfl, hB6⟩

theorem mapTo_inR {s : Se} {f : Nat → Ci → Ci} {k : Nat} (hk : k < 3) (h : inR s) : (0 ≤ ((s.mapTo f k).get k).a ∧ ((s.mapTo f k).get k).a < 2147483579) ∧ (0 ≤ ((s.mapTo f k).get k).b ∧ ((s.mapTo f k).get k).b < 2147483579) := by
  rw [mapTo_get f s hk]; exact h k hk

set_option maxRecDepth 100000 in
set_option maxHeartbeats 4000000 in
theorem ragain_ok (key : Int) (s : Se) (r : Tr) (w : World) (hv : vld key = true) (hc : okS s = true) :
    Calls Try.prog 19 #[.int .i64 key, s.val, r.val] w fun e w' => e = .returned (.tuple #[(s.map (moreC key r)).val, .int .i64 0]) ∧ Below w.heap.size w w' := by
  have hch := fun w => rcheck_any s w
  have e3 : chS s = 0 := by unfold chS; rw [hc]; rfl
  rw [e3] at hch
  have hin := okS_inR hc
  have hA := fun (W : World) (hb : Below (((w.alloc (.cells s.cells.toArray 34)).alloc (.cells r.cells.toArray 29)).alloc (.cells (default : Se).cells.toArray 34)).heap.size (((w.alloc (.cells s.cells.toArray 34)).alloc (.cells r.cells.toArray 29)).alloc (.cells (default : Se).cells.toArray 34)) W) => (Ag.start s r w).below hb
  obtain ⟨t, ht⟩ : ∃ t : Se, s.map (moreC key r) = t := ⟨_, rfl⟩
  rw [ht]
  unfold Se.val at hch
  have HCH := Lib.hid hch
  have HA := Lib.hid hA
  have HIN := Lib.hid hin
  have HT := Lib.hid ht
  clear e3 hch hA hin ht
  unfold Se.val Tr.val
  go_enter Try.func19, Try.ntmps19
  go_wp2_with (first
    | (go_at_call 26; refine (refvalid_any _ _).mono ?_; rintro e w1 ⟨rfl, rfl⟩)
    | (go_at_call 27; refine (HCH.out _).mono ?_; rintro e w1 ⟨rfl, hb⟩; replace hb := HA.out _ hb))
  go_loopg [8] 3 (fun g i wr => Below w.heap.size w wr ∧ ∃ k : Nat, i = .int .i64 k ∧ k + g = 3 ∧ RowS wr w.heap.size (s.mapTo (moreC key r) k) ∧ Row wr (w.heap.size + 1) 29 r.cells ∧ RowS wr (w.heap.size + 1 + 1) default)
  case atStart => exact ⟨hb.b, 0, rfl, by omega, hb.s, hb.r, hb.o⟩
  case round =>
    clear hb
    obtain ⟨hBr, k, rfl, hk, hs, hr, ho⟩ := hrel
    have hzz := Row.lt ho
    by_cases hlt : k < 3
    · have c1 := hs.ca hlt
      have c2 := hs.cb hlt
      have c3 := RowT_get hr hlt
      obtain ⟨i1, i2⟩ := mapTo_inR (f := moreC key r) hlt HIN.out
      have hst := mapTo_set (moreC key r) s hlt
      have hg := mapTo_get (moreC key r) s hlt
      rw [← hg] at hst
      have hsc := set_cells (s.mapTo (moreC key r) k) (moreC key r k ((s.mapTo (moreC key r) k).get k)) hlt
      rw [hst] at hsc
      have hmo : moreC key r k ((s.mapTo (moreC key r) k).get k) = ⟨((s.mapTo (moreC key r) k).get k).a * powC 4 (r.get k) % 2147483579, ((s.mapTo (moreC key r) k).get k).b * powC key (r.get k) % 2147483579⟩ := rfl
      rw [hmo] at hsc
      obtain ⟨c, hc⟩ : ∃ c, (s.mapTo (moreC key r) k).get k = c := ⟨_, rfl⟩
      obtain ⟨ri, hri⟩ : ∃ ri, r.get k = ri := ⟨_, rfl⟩
      rw [hc] at c1 c2 i1 i2 hsc
      rw [hri] at c3 hsc
      have p1 := powC_bd 4 ri
      have p2 := powC_bd key ri
      have q1 := fun w => rpow10_any 4 ri w
      have q2 := fun w => rpow10_any key ri w
      generalize powC 4 ri = x1 at *
      generalize powC key ri = x2 at *
      have f1 := Row.frozen hs (k * 2)
      have f2 := Row.frozen hs (k * 2 + 1)
      have HSC := Lib.hid hsc
      have Q1 := Lib.hid q1
      have Q2 := Lib.hid q2
      have s1 : (0 : Int) ≤ k := by omega
      have s2 : (k : Int) < 3 := by omega
      clear hst hg hsc hmo hc hri q1 q2
      go_wp2_with fail
      have hzz2 : w.heap.size + 1 + 1 < wr.drew.heap.size := hzz
      replace hs : RowS wr.drew w.heap.size (s.mapTo (moreC key r) k) := Row.keep hs rfl
      replace hr : Row wr.drew (w.heap.size + 1) 29 r.cells := Row.keep hr rfl
      replace ho : RowS wr.drew (w.heap.size + 1 + 1) default := Row.keep ho rfl
      replace hBr : Below w.heap.size w wr.drew := hBr.drew
      replace c1 : wr.drew.cell? ⟨w.heap.size, k * 2, none⟩ = some (.int .i64 c.a) := c1
      replace c2 : wr.drew.cell? ⟨w.heap.size, k * 2 + 1, none⟩ = some (.int .i64 c.b) := c2
      replace c3 : wr.drew.cell? ⟨w.heap.size + 1, k, none⟩ = some (.int .i64 ri) := c3
      replace f1 : wr.drew.frozen? ⟨w.heap.size, k * 2, none⟩ = false := f1
      replace f2 : wr.drew.frozen? ⟨w.heap.size, k * 2 + 1, none⟩ = false := f2
      obtain ⟨W1, hW1⟩ : ∃ W1 : World, wr.drew = W1 := ⟨_, rfl⟩
      rw [hW1] at hs hr ho hBr c1 c2 c3 f1 f2 hzz2
      refine wp_region_ord 21 [(1, 0), (1, 1), (1, 2), (1, 3), (1, 4), (1, 5), (1, 6), (1, 7), (1, 10), (1, 11), (1, 12), (1, 13), (1, 14), (1, 15), (1, 16), (1, 17), (2, 8), (2, 9), (2, 18), (2, 19), (1, 20)]
        (fun w' => W1 = w') (by kernel_rfl) (by kernel_rfl) (fun _ _ d _ _ h => by cases d <;> exact h) hW1.symm ?_
      rw [hW1]
      clear hW1 hzz
      iterate 16
        refine wpOrd_take (v := ?_) rfl (by rfl) (fun w hSw => ?_) ?_
        rotate_left 1
        · subst hSw
          go_simp
          with_reducible rfl
        simp only [Act.put, List.setIfInBounds_toArray, List.set_cons_zero, List.set_cons_succ]
      refine wpOrd_step rfl (fun K hK => ⟨by rfl, ?_⟩)
      go_simp
      go_at_call 43
      refine (Q1.out _).mono ?_
      rintro e w2 ⟨rfl, rfl⟩
      refine hK _ _ rfl ?_
      clear hK K
      refine wpOrd_step rfl (fun K hK => ⟨by rfl, ?_⟩)
      go_simp
      go_at_call 44
      refine (rtimes10_any _ _ i1 p1 _).mono ?_
      rintro e w2 ⟨rfl, rfl⟩
      refine hK _ _ rfl ?_
      clear hK K
      refine wpOrd_step rfl (fun K hK => ⟨by rfl, ?_⟩)
      go_simp
      go_at_call 43
      refine (Q2.out _).mono ?_
      rintro e w2 ⟨rfl, rfl⟩
      refine hK _ _ rfl ?_
      clear hK K
      refine wpOrd_step rfl (fun K hK => ⟨by rfl, ?_⟩)
      go_simp
      go_at_call 44
      refine (rtimes10_any _ _ i2 p2 _).mono ?_
      rintro e w2 ⟨rfl, rfl⟩
      refine hK _ _ rfl ?_
      clear hK K
      refine wpOrd_take (v := ?_) rfl (by rfl) (fun w hSw => ?_) ?_
      rotate_left 1
      · go_simp
        with_reducible rfl
      simp only [Act.put, List.setIfInBounds_toArray, List.set_cons_zero, List.set_cons_succ]
      refine wpOrd_nil ?_
      simp only [List.drop_succ_cons, List.drop_zero]
      have hs2 : RowS ((W1.setCell ⟨w.heap.size, k * 2, none⟩ (.int .i64 (c.a * x1 % 2147483579))).setCell ⟨w.heap.size, k * 2 + 1, none⟩ (.int .i64 (c.b * x2 % 2147483579))) w.heap.size (s.mapTo (moreC key r) (k + 1)) := by
        show Row _ _ _ _
        rw [HSC.out]
        exact Row.store (Row.store hs (k * 2) _) (k * 2 + 1) _
      have hr2 : Row ((W1.setCell ⟨w.heap.size, k * 2, none⟩ (.int .i64 (c.a * x1 % 2147483579))).setCell ⟨w.heap.size, k * 2 + 1, none⟩ (.int .i64 (c.b * x2 % 2147483579))) (w.heap.size + 1) 29 r.cells := Row.other (Row.other hr (by simp) _) (by simp) _
      have ho2 : RowS ((W1.setCell ⟨w.heap.size, k * 2, none⟩ (.int .i64 (c.a * x1 % 2147483579))).setCell ⟨w.heap.size, k * 2 + 1, none⟩ (.int .i64 (c.b * x2 % 2147483579))) (w.heap.size + 1 + 1) default := Row.other (Row.other ho (by simp; omega) _) (by simp; omega) _
      have hB2 : Below w.heap.size w ((W1.setCell ⟨w.heap.size, k * 2, none⟩ (.int .i64 (c.a * x1 % 2147483579))).setCell ⟨w.heap.size, k * 2 + 1, none⟩ (.int .i64 (c.b * x2 % 2147483579))) := ((hBr.setCell (by simp) _).setCell (by simp) _)
      have f3 : (W1.setCell ⟨w.heap.size, k * 2, none⟩ (.int .i64 (c.a * x1 % 2147483579))).frozen? ⟨w.heap.size, k * 2 + 1, none⟩ = false := Row.frozen (Row.store hs (k * 2) _) _
      have c4 : (W1.setCell ⟨w.heap.size, k * 2, none⟩ (.int .i64 (c.a * x1 % 2147483579))).cell? ⟨w.heap.size, k * 2 + 1, none⟩ = some (.int .i64 c.b) := (World.cell?_setCell_other _ _ _ _ (fun e => by injection e; omega)).trans c2
      have H1 := Lib.hid hs2
      have H2 := Lib.hid hr2
      have H3 := Lib.hid ho2
      have H4 := Lib.hid hB2
      clear hs2 hr2 ho2 hB2 hs hr ho hBr
      go_wp2_with fail
      go_roundg (gk - 1)
      case measure => omega
      case rel => exact ⟨H4.out, k + 1, by go_num, by omega, H1.out, H2.out, H3.out⟩
    · obtain rfl : k = 3 := by omega
      rw [Se.mapTo_three, HT.out] at hs
      obtain ⟨f0, f1, f2, f3, f4, f5⟩ := ho.free
      obtain ⟨u0, u1, u2, u3, u4, u5⟩ := ho.six
      obtain ⟨q0, q1, q2, q3, q4, q5⟩ := hs.six
      go_wp2_with fail
      have h6 : RowS ((((((wr.setCell ⟨w.heap.size + 1 + 1, 0, none⟩ (.int .i64 t.x.a)).setCell ⟨w.heap.size + 1 + 1, 1, none⟩ (.int .i64 t.x.b)).setCell ⟨w.heap.size + 1 + 1, 2, none⟩ (.int .i64 t.y.a)).setCell ⟨w.heap.size + 1 + 1, 3, none⟩ (.int .i64 t.y.b)).setCell ⟨w.heap.size + 1 + 1, 4, none⟩ (.int .i64 t.z.a)).setCell ⟨w.heap.size + 1 + 1, 5, none⟩ (.int .i64 t.z.b)) (w.heap.size + 1 + 1) t := Row.store (Row.store (Row.store (Row.store (Row.store (Row.store ho 0 _) 1 _) 2 _) 3 _) 4 _) 5 _
      have hB6 : Below w.heap.size w ((((((wr.setCell ⟨w.heap.size + 1 + 1, 0, none⟩ (.int .i64 t.x.a)).setCell ⟨w.heap.size + 1 + 1, 1, none⟩ (.int .i64 t.x.b)).setCell ⟨w.heap.size + 1 + 1, 2, none⟩ (.int .i64 t.y.a)).setCell ⟨w.heap.size + 1 + 1, 3, none⟩ (.int .i64 t.y.b)).setCell ⟨w.heap.size + 1 + 1, 4, none⟩ (.int .i64 t.z.a)).setCell ⟨w.heap.size + 1 + 1, 5, none⟩ (.int .i64 t.z.b)) := (((((hBr.setCell (by simp only []; omega) _).setCell (by simp only []; omega) _).setCell (by simp only []; omega) _).setCell (by simp only []; omega) _).setCell (by simp only []; omega) _).setCell (by simp only []; omega) _
      generalize ((((((wr.setCell ⟨w.heap.size + 1 + 1, 0, none⟩ (.int .i64 t.x.a)).setCell ⟨w.heap.size + 1 + 1, 1, none⟩ (.int .i64 t.x.b)).setCell ⟨w.heap.size + 1 + 1, 2, none⟩ (.int .i64 t.y.a)).setCell ⟨w.heap.size + 1 + 1, 3, none⟩ (.int .i64 t.y.b)).setCell ⟨w.heap.size + 1 + 1, 4, none⟩ (.int .i64 t.z.a)).setCell ⟨w.heap.size + 1 + 1, 5, none⟩ (.int .i64 t.z.b)) = W6 at *
      obtain ⟨p0, p1, p2, p3, p4, p5⟩ := h6.six
      exact bodyPost_ret (v := .tuple #[.agg #[.int .i64 t.x.a, .int .i64 t.x.b, .int .i64 t.y.a, .int .i64 t.y.b, .int .i64 t.z.a, .int .i64 t.z.b], .int .i64 0]) (by simp [results, Try.results19, go_sem, p0, p1, p2, p3, p4, p5]) rfl ⟨rfl, hB6⟩
theorem ragain_any (key : Int) (s : Se) (r : Tr) (w : World) :
    Calls Try.prog 19 #[.int .i64 key, s.val, r.val] w fun e w' => e = .returned (.tuple #[(againC key s r).val, .int .i64 (againE key s)]) ∧ Below w.heap.size w w' := by
  cases hv : vld key with
  | false =>
    have e1 : againC key s r = default := by unfold againC; rw [hv]; rfl
    have e2 : againE key s = 90 := by unfold againE; rw [hv]; rfl
    rw [e1, e2]; exact ragain_no key s r w hv
  | true =>
    cases hc : okS s with
    | false =>
      have e1 : againC key s r = default := by unfold againC; rw [hv, hc]; rfl
      have e2 : againE key s = 100 := by unfold againE chS; rw [hv, hc]; rfl
      rw [e1, e2]; exact ragain_bad key s r w hv hc
    | true =>
      have e1 : againC key s r = s.map (moreC key r) := by unfold againC; rw [hv, hc]; rfl
      have e2 : againE key s = 0 := by unfold againE chS; rw [hv, hc]; rfl
      rw [e1, e2]; exact ragain_ok key s r w hv hc
end Go.Proofs.Ytlbnbginippjfaa
