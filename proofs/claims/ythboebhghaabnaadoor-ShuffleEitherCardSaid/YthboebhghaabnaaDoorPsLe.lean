import Derived.Test.YthboebhghaabnaaDoorPsl
import Derived.Deep.QuietTactic
import Derived.BigQuiet
set_option linter.unusedSimpArgs false
set_option linter.unusedVariables false
namespace Go.Proofs.YthboebhghaabnaaDoor
open Go.RowKit Fk Sha
/-! ShuffleEither. -/
theorem bit_bounds {bits : List Int} (h : bits.all bitB = true) : ∀ i, i < bits.length → -9223372036854775806 ≤ bits.getD i default ∧ bits.getD i default ≤ 9223372036854775807 := fun i hi => by
  rcases bit_at h hi with e | e <;> rw [e] <;> decide
/-- two halves of one side at one place -/
def pairAt (L R : List Int) (j i : Nat) : Prop := L.getD j default = L.getD i default ∨ R.getD j default = R.getD i default
set_option maxRecDepth 100000 in
set_option maxHeartbeats 8000000 in
theorem shuffleEither_walk (key : Int) (m : Mx) (x : MxA) (bits : List Int) (v0 : Value) (l : List Og) (v1 : Value) (o : List Og) (v2 : Value) (w : World) (hT0 : Tab w) (hz0 : 1 < w.heap.size ∧ 0 < w.heap.size)
    (hm : MxS w w.heap.size x m) (h0 : SlI w w.heap.size v0 bits) (h1 : SlG 36 Og.cells w w.heap.size v1 l) (h2 : SlG 36 Og.cells w w.heap.size v2 o)
    (_ : (Lit.int .i64 key).wf = true) (hmo : MxOK m) (_ : ∀ i, i < bits.length → wfI (bits.getD i default)) (hlo : ∀ i, i < l.length → wfOg (l.getD i default)) (hoo : ∀ i, i < o.length → wfOg (o.getD i default)) :
    Calls Tryd.prog 6 #[.int .i64 key, .agg (x.cells m).toArray, v0, v1, v2] w fun e w' => e = .returned (.bool true) ∧ Below w.heap.size w w' := by
  have hT : TabS w := ⟨hT0, hz0⟩
  have HT := Lib.hid hT
  have SN := Lib.hid (fun W (hb : Below w.heap.size w W) => sane14_any W (HT.out.below hb))
  have F1 := Lib.hid (fun W => fewmix_any m x W)
  have F2 := Lib.hid (fun A A1 c c1 W => fewopened_any bits.length l.length A A1 c c1 W)
  have F3 := Lib.hid (fun A c W => fewopened_any 0 o.length none A 0 c W)
  have hB := below_alloc' w (.cells (x.cells m).toArray 45)
  have r0 := Row.new w 45 (x.cells m)
  obtain ⟨W, hW⟩ : ∃ W, w.alloc (.cells (x.cells m).toArray 45) = W := ⟨_, rfl⟩
  replace r0 : Row W w.heap.size 45 (x.cells m) := hW ▸ r0
  replace hB : Below w.heap.size w W := hW ▸ hB
  have k0 : Kp fun W' => ((Below w.heap.size w W' ∧ Row W' w.heap.size 45 (x.cells m)) ∧ (MxS W' W'.heap.size x m ∧ SlG 36 Og.cells W' W'.heap.size v1 l ∧ SlG 36 Og.cells W' W'.heap.size v2 o) ∧ SlI W' W'.heap.size v0 bits) := by intro W W' hb ⟨⟨a, b⟩, ⟨c, d, e⟩, f⟩; exact ⟨⟨Kp.from w hb a, Kp.row hb b⟩, ⟨Kp.mx hb c, Kp.sl hb d, Kp.sl hb e⟩, Kp.sl hb f⟩
  replace h0 : (fun W' => ((Below w.heap.size w W' ∧ Row W' w.heap.size 45 (x.cells m)) ∧ (MxS W' W'.heap.size x m ∧ SlG 36 Og.cells W' W'.heap.size v1 l ∧ SlG 36 Og.cells W' W'.heap.size v2 o) ∧ SlI W' W'.heap.size v0 bits)) W := ⟨⟨hB, r0⟩, ⟨(hm.below hB).mono hB.size, (h1.below hB).mono hB.size, (h2.below hB).mono hB.size⟩, (h0.below hB).mono hB.size⟩
  have HMO := Lib.hid hmo
  have HLO := Lib.hid (wfOg_all hlo)
  have HOO := Lib.hid (wfOg_all hoo)
  have CKb := Lib.hid (fun (W : World) (hb : Below w.heap.size w W) (hm : MxS W W.heap.size x m) (hbt : SlI W W.heap.size v0 bits) (hl : SlG 36 Og.cells W W.heap.size v1 l) => check_any key x m bits l v0 v1 W (HT.out.below hb) hm hbt hl HMO.out HLO.out)
  have COb := Lib.hid (fun (v0 : Value) (W : World) (hb : Below w.heap.size w W) (hm : MxS W W.heap.size x m) (hbt : SlI W W.heap.size v0 (opp bits)) (hl : SlG 36 Og.cells W W.heap.size v2 o) => check_any key x m (opp bits) o v0 v2 W (HT.out.below hb) hm hbt hl HMO.out HOO.out)
  have SE := Lib.hid (fun (v3 : Value) (W : World) (h : Chk key m bits l) (h2 : Chk key m (opp bits) o) hw hm hb hl ho hp => sealed_any key m x bits l o v0 v1 v2 v3 W h h2 hw hm hb hl ho hp (fun i hi => (HLO.out i hi).2) (fun i hi => (HOO.out i hi).2))
  have LG := Lib.hid (fun A A1 A2 c c1 c2 W => long_any m x bits.length l.length o.length A A1 A2 c c1 c2 W)
  have WHb := Lib.hid (fun (W : World) hb hl ho => whole_any bits l o v0 v1 v2 W hb hl ho)
  have PL := Lib.hid (fun (W : World) hb hl ho e1 e2 e3 => rplaces_any bits l o v0 v1 v2 W hb hl ho e1 e2 e3)
  have OPb := Lib.hid (fun W (h : SlI W W.heap.size v0 bits) e1 e2 => opposite_any bits v0 W h e1 e2)
  obtain ⟨_, A0, c0, rfl, _⟩ := id h0.2.2
  obtain ⟨_, A1, c1, rfl, _⟩ := h1
  obtain ⟨_, A2, c2, rfl, _⟩ := h2
  obtain ⟨ai, ci, am, cm, ao, co, al, cl, ar, cr⟩ := x
  have hx : (MxA.cells ⟨ai, ci, am, cm, ao, co, al, cl, ar, cr⟩ m) = [.slice ai m.i.length ci, .slice am m.m.length cm, .slice ao m.o.length co, .slice al m.l.length cl, .slice ar m.r.length cr] := rfl
  rw [hx] at F1 h0 k0 hW CKb COb SE LG ⊢
  replace hW : w.alloc (.cells #[.slice ai m.i.length ci, .slice am m.m.length cm, .slice ao m.o.length co, .slice al m.l.length cl, .slice ar m.r.length cr] 45) = W := hW
  clear hT0 hz0 hT hm hmo hlo hoo hB r0 hx
  cases f1 : fewMx m with
  | false =>
    rw [f1] at F1
    go_enter Tryd.func6, Tryd.ntmps6
    go_upto_region 1 with fail
    try rw [hW]
    clear hW
    go_wp2_with (first
      | (go_at_call 10; (with_reducible refine (SN.out _ h0.1.1).mono ?_); rintro e w1 ⟨rfl, hb⟩; replace h0 := k0 hb h0; clear hb; obtain ⟨e0, e1, e2, e3, e4⟩ := st5c h0.1.2)
      | (go_at_call 21; (with_reducible refine (F1.out _).mono ?_); rintro e w2 ⟨rfl, hb⟩; replace h0 := k0 hb h0; clear hb; obtain ⟨e0, e1, e2, e3, e4⟩ := st5c h0.1.2))
    go_ret
    exact ⟨rfl, h0.1.1⟩
  | true =>
  rw [f1] at F1
  cases f2 : fewOg bits.length l.length with
  | false =>
    rw [f2] at F2
    go_enter Tryd.func6, Tryd.ntmps6
    go_upto_region 1 with fail
    try rw [hW]
    clear hW
    go_wp2_with (first
      | (go_at_call 10; (with_reducible refine (SN.out _ h0.1.1).mono ?_); rintro e w1 ⟨rfl, hb⟩; replace h0 := k0 hb h0; clear hb; obtain ⟨e0, e1, e2, e3, e4⟩ := st5c h0.1.2)
      | (go_at_call 21; (with_reducible refine (F1.out _).mono ?_); rintro e w2 ⟨rfl, hb⟩; replace h0 := k0 hb h0; clear hb; obtain ⟨e0, e1, e2, e3, e4⟩ := st5c h0.1.2)
      | (go_at_call 12; (with_reducible refine (F2.out _ _ _ _ _).mono ?_); rintro e w3 ⟨rfl, hb⟩; replace h0 := k0 hb h0; clear hb; obtain ⟨e0, e1, e2, e3, e4⟩ := st5c h0.1.2))
    go_ret
    exact ⟨rfl, h0.1.1⟩
  | true =>
  rw [f2] at F2
  cases f3 : fewOg 0 o.length with
  | false =>
    rw [f3] at F3
    go_enter Tryd.func6, Tryd.ntmps6
    go_upto_region 1 with fail
    try rw [hW]
    clear hW
    go_wp2_with (first
      | (go_at_call 10; (with_reducible refine (SN.out _ h0.1.1).mono ?_); rintro e w1 ⟨rfl, hb⟩; replace h0 := k0 hb h0; clear hb; obtain ⟨e0, e1, e2, e3, e4⟩ := st5c h0.1.2)
      | (go_at_call 21; (with_reducible refine (F1.out _).mono ?_); rintro e w2 ⟨rfl, hb⟩; replace h0 := k0 hb h0; clear hb; obtain ⟨e0, e1, e2, e3, e4⟩ := st5c h0.1.2)
      | (go_at_call 12; (with_reducible refine (F2.out _ _ _ _ _).mono ?_); rintro e w3 ⟨rfl, hb⟩; replace h0 := k0 hb h0; clear hb; obtain ⟨e0, e1, e2, e3, e4⟩ := st5c h0.1.2)
      | (go_at_call 12; (with_reducible refine (F3.out _ _ _).mono ?_); rintro e w4 ⟨rfl, hb⟩; replace h0 := k0 hb h0; clear hb; obtain ⟨e0, e1, e2, e3, e4⟩ := st5c h0.1.2))
    go_ret
    exact ⟨rfl, h0.1.1⟩
  | true =>
  rw [f3] at F3
  have hb7 : bits.length ≤ 7 := by
    unfold fewOg at f2
    simp only [Bool.and_eq_true, decide_eq_true_iff] at f2
    exact f2.1
  clear f1 f2 f3
  go_enter Tryd.func6, Tryd.ntmps6
  go_upto_region 1 with fail
  try rw [hW]
  clear hW
  go_upto_region 5 with (first
    | (go_at_call 10; (with_reducible refine (SN.out _ h0.1.1).mono ?_); rintro e w1 ⟨rfl, hb⟩; replace h0 := k0 hb h0; clear hb; obtain ⟨e0, e1, e2, e3, e4⟩ := st5c h0.1.2)
    | (go_at_call 21; (with_reducible refine (F1.out _).mono ?_); rintro e w2 ⟨rfl, hb⟩; replace h0 := k0 hb h0; clear hb; obtain ⟨e0, e1, e2, e3, e4⟩ := st5c h0.1.2)
    | (go_at_call 12; (with_reducible refine (F2.out _ _ _ _ _).mono ?_); rintro e w3 ⟨rfl, hb⟩; replace h0 := k0 hb h0; clear hb; obtain ⟨e0, e1, e2, e3, e4⟩ := st5c h0.1.2)
    | (go_at_call 12; (with_reducible refine (F3.out _ _ _).mono ?_); rintro e w4 ⟨rfl, hb⟩; replace h0 := k0 hb h0; clear hb; obtain ⟨e0, e1, e2, e3, e4⟩ := st5c h0.1.2))
  clear e0 e1 e2 e3 e4 SN F1 F2 F3
  go_cut [47] from 33 to 47 (fun v W' => v = .bool (!(checkB key m bits l && checkB key m (opp bits) o)) ∧ ((Below w.heap.size w W' ∧ Row W' w.heap.size 45 [.slice ai m.i.length ci, .slice am m.m.length cm, .slice ao m.o.length co, .slice al m.l.length cl, .slice ar m.r.length cr]) ∧ (MxS W' W'.heap.size ⟨ai, ci, am, cm, ao, co, al, cl, ar, cr⟩ m ∧ SlG 36 Og.cells W' W'.heap.size (.slice A1 l.length c1) l ∧ SlG 36 Og.cells W' W'.heap.size (.slice A2 o.length c2) o) ∧ SlI W' W'.heap.size (.slice A0 bits.length c0) bits))
  case first =>
    have HC := Lib.hid (fun W' (h : ((Below w.heap.size w W' ∧ Row W' w.heap.size 45 [.slice ai m.i.length ci, .slice am m.m.length cm, .slice ao m.o.length co, .slice al m.l.length cl, .slice ar m.r.length cr]) ∧ (MxS W' W'.heap.size ⟨ai, ci, am, cm, ao, co, al, cl, ar, cr⟩ m ∧ SlG 36 Og.cells W' W'.heap.size (.slice A1 l.length c1) l ∧ SlG 36 Og.cells W' W'.heap.size (.slice A2 o.length c2) o) ∧ SlI W' W'.heap.size (.slice A0 bits.length c0) bits)) => st5c h.1.2)
    cases g1 : checkB key m bits l with
    | false =>
      rw [g1] at CKb
      refine wp_region_tree 14 (.take 0 (.take 1 (.take 2 (.take 3 (.one 4 (.take 5 (.take 6 (.take 7 (.take 8 (.take 9 (.take 10 (.take 11 (.take 12 (.take 13 .done))))))))))))))
        (fun W' => ((Below w.heap.size w W' ∧ Row W' w.heap.size 45 [.slice ai m.i.length ci, .slice am m.m.length cm, .slice ao m.o.length co, .slice al m.l.length cl, .slice ar m.r.length cr]) ∧ (MxS W' W'.heap.size ⟨ai, ci, am, cm, ao, co, al, cl, ar, cr⟩ m ∧ SlG 36 Og.cells W' W'.heap.size (.slice A1 l.length c1) l ∧ SlG 36 Og.cells W' W'.heap.size (.slice A2 o.length c2) o) ∧ SlI W' W'.heap.size (.slice A0 bits.length c0) bits)) (by kernel_rfl) (by kernel_rfl) (fun _ _ d _ _ h => by cases d <;> exact h) (k0 (Below.refl _ _).drew h0) ?_
      replace h0 := k0 (Below.refl _ _).drew h0
      generalize w4.drew = V1 at *
      iterate 4
        refine wpTree_take (v := ?_) rfl (by kernel_rfl) (fun w hSw => ?_) ?_
        rotate_left 1
        · obtain ⟨e0, e1, e2, e3, e4⟩ := HC.out _ hSw
          go_simp
          with_reducible rfl
        simp only [Act.put, List.setIfInBounds_toArray, List.set_cons_zero, List.set_cons_succ]
      refine wpTree_one rfl (fun K hK => ⟨by kernel_rfl, ?_⟩)
      go_simp
      go_at_call 22
      refine (CKb.out _ h0.1.1 h0.2.1.1 h0.2.2 h0.2.1.2.1).mono ?_
      rintro e V2 ⟨rfl, hb⟩
      replace h0 := k0 hb h0
      refine hK _ _ h0 ?_
      clear hK K hb
      try simp only [Act.put, List.setIfInBounds_toArray, List.set_cons_zero, List.set_cons_succ]
      iterate 2
        refine wpTree_take (v := ?_) rfl (by kernel_rfl) (fun w hSw => ?_) ?_
        rotate_left 1
        · go_simp
          with_reducible rfl
        simp only [Act.put, List.setIfInBounds_toArray, List.set_cons_zero, List.set_cons_succ]
      iterate 7
        refine wpTree_skip rfl (by kernel_rfl) ?_
        simp only [Act.put, List.setIfInBounds_toArray, List.set_cons_zero, List.set_cons_succ]
      refine wpTree_done ?_
      simp only [List.drop_succ_cons, List.drop_zero]
      go_wp2_with fail
      go_meet
      exact ⟨by rw [g1]; rfl, h0⟩
    | true =>
      rw [g1] at CKb
      have hbo := (checkB_iff.1 g1).bit
      have OPc := Lib.hid (fun W h => OPb.out W h (by omega) (bit_bounds hbo))
      clear hbo
      cases g2 : checkB key m (opp bits) o
      all_goals
        rw [g2] at COb
        refine wp_region_tree 14 (.take 0 (.take 1 (.take 2 (.take 3 (.one 4 (.take 5 (.take 6 (.take 7 (.take 8 (.take 9 (.take 11 (.one 10 (.one 12 (.take 13 .done))))))))))))))
          (fun W' => ((Below w.heap.size w W' ∧ Row W' w.heap.size 45 [.slice ai m.i.length ci, .slice am m.m.length cm, .slice ao m.o.length co, .slice al m.l.length cl, .slice ar m.r.length cr]) ∧ (MxS W' W'.heap.size ⟨ai, ci, am, cm, ao, co, al, cl, ar, cr⟩ m ∧ SlG 36 Og.cells W' W'.heap.size (.slice A1 l.length c1) l ∧ SlG 36 Og.cells W' W'.heap.size (.slice A2 o.length c2) o) ∧ SlI W' W'.heap.size (.slice A0 bits.length c0) bits)) (by kernel_rfl) (by kernel_rfl) (fun _ _ d _ _ h => by cases d <;> exact h) (k0 (Below.refl _ _).drew h0) ?_
        replace h0 := k0 (Below.refl _ _).drew h0
        generalize w4.drew = V1 at *
        iterate 4
          refine wpTree_take (v := ?_) rfl (by kernel_rfl) (fun w hSw => ?_) ?_
          rotate_left 1
          · obtain ⟨e0, e1, e2, e3, e4⟩ := HC.out _ hSw
            go_simp
            with_reducible rfl
          simp only [Act.put, List.setIfInBounds_toArray, List.set_cons_zero, List.set_cons_succ]
        refine wpTree_one rfl (fun K hK => ⟨by kernel_rfl, ?_⟩)
        go_simp
        go_at_call 22
        refine (CKb.out _ h0.1.1 h0.2.1.1 h0.2.2 h0.2.1.2.1).mono ?_
        rintro e V2 ⟨rfl, hb⟩
        replace h0 := k0 hb h0
        refine hK _ _ h0 ?_
        clear hK K hb
        try simp only [Act.put, List.setIfInBounds_toArray, List.set_cons_zero, List.set_cons_succ]
        iterate 6
          refine wpTree_take (v := ?_) rfl (by kernel_rfl) (fun w hSw => ?_) ?_
          rotate_left 1
          · obtain ⟨e0, e1, e2, e3, e4⟩ := HC.out _ hSw
            go_simp
            with_reducible rfl
          simp only [Act.put, List.setIfInBounds_toArray, List.set_cons_zero, List.set_cons_succ]
        refine wpTree_one rfl (fun K hK => ⟨by kernel_rfl, ?_⟩)
        go_simp
        go_at_call 23
        refine (OPc.out _ h0.2.2).mono ?_
        rintro e V3 ⟨vo, rfl, hb, hvo⟩
        replace h0 := k0 hb h0
        refine hK _ _ h0 ?_
        clear hK K hb
        try simp only [Act.put, List.setIfInBounds_toArray, List.set_cons_zero, List.set_cons_succ]
        refine wpTree_one rfl (fun K hK => ⟨by kernel_rfl, ?_⟩)
        go_simp
        go_at_call 22
        refine (COb.out _ _ h0.1.1 h0.2.1.1 hvo h0.2.1.2.2).mono ?_
        rintro e V4 ⟨rfl, hb⟩
        replace h0 := k0 hb h0
        refine hK _ _ h0 ?_
        clear hK K hb
        try simp only [Act.put, List.setIfInBounds_toArray, List.set_cons_zero, List.set_cons_succ]
        refine wpTree_take (v := ?_) rfl (by kernel_rfl) (fun w hSw => ?_) ?_
        rotate_left 1
        · go_simp
          with_reducible rfl
        simp only [Act.put, List.setIfInBounds_toArray, List.set_cons_zero, List.set_cons_succ]
        refine wpTree_done ?_
        simp only [List.drop_succ_cons, List.drop_zero]
        go_wp2_with fail
        go_meet
        exact ⟨by rw [g1, g2]; rfl, h0⟩
  case rest =>
    clear h0
    obtain ⟨rfl, h0⟩ := hcut
    cases hcc : (checkB key m bits l && checkB key m (opp bits) o) with
    | false =>
      go_wp2_with fail
      go_ret
      exact ⟨rfl, h0.1.1⟩
    | true =>
      rw [Bool.and_eq_true] at hcc
      have hk1 := checkB_iff.1 hcc.1
      have hk2 := checkB_iff.1 hcc.2
      have hlg := longMx_true hk1 hk2
      rw [hlg] at LG
      clear hlg hcc CKb OPb COb
      cases hw : wholeB bits l o with
      | true =>
        have hwp := whole_perm hw
        have SEc := Lib.hid (fun v W hm hb hl ho hp => SE.out v W hk1 hk2 hw hm hb hl ho hp)
        rw [hw] at WHb
        obtain ⟨X, hX⟩ : ∃ X, wholeC bits l o = X := ⟨_, rfl⟩
        rw [hX] at WHb hwp SEc
        have PM := Lib.hid (fun v W h => rperm_any X v W h)
        rw [hwp.1] at PM
        have sN : ((X.length : Int) == bits.length) = true := by
          have := hwp.2.1
          simp [this]
        clear hk1 hk2 hw hwp SE PL hX
        obtain ⟨e0, e1, e2, e3, e4⟩ := st5c h0.1.2
        go_upto_region 11 with (first
          | (go_at_call 24; (with_reducible refine (LG.out _ _ _ _ _ _ _).mono ?_); rintro e w7 ⟨rfl, hb⟩; replace h0 := k0 hb h0; clear hb)
          | (go_at_call 19; (with_reducible refine (WHb.out _ h0.2.2 h0.2.1.2.1 h0.2.1.2.2).mono ?_); rintro e w8 ⟨v3, rfl, hb, h3⟩; replace h0 := k0 hb h0; clear hb))
        have k2 : Kp fun W' => (((Below w.heap.size w W' ∧ Row W' w.heap.size 45 [.slice ai m.i.length ci, .slice am m.m.length cm, .slice ao m.o.length co, .slice al m.l.length cl, .slice ar m.r.length cr]) ∧ (MxS W' W'.heap.size ⟨ai, ci, am, cm, ao, co, al, cl, ar, cr⟩ m ∧ SlG 36 Og.cells W' W'.heap.size (.slice A1 l.length c1) l ∧ SlG 36 Og.cells W' W'.heap.size (.slice A2 o.length c2) o) ∧ SlI W' W'.heap.size (.slice A0 bits.length c0) bits)) ∧ SlI W' W'.heap.size v3 X := by intro W W' hb ⟨a, b⟩; exact ⟨k0 hb a, Kp.sl hb b⟩
        have h2 : (fun W' => (((Below w.heap.size w W' ∧ Row W' w.heap.size 45 [.slice ai m.i.length ci, .slice am m.m.length cm, .slice ao m.o.length co, .slice al m.l.length cl, .slice ar m.r.length cr]) ∧ (MxS W' W'.heap.size ⟨ai, ci, am, cm, ao, co, al, cl, ar, cr⟩ m ∧ SlG 36 Og.cells W' W'.heap.size (.slice A1 l.length c1) l ∧ SlG 36 Og.cells W' W'.heap.size (.slice A2 o.length c2) o) ∧ SlI W' W'.heap.size (.slice A0 bits.length c0) bits)) ∧ SlI W' W'.heap.size v3 X) w8 := ⟨h0, h3⟩
        obtain ⟨_, A3, c3, rfl, _⟩ := id h3
        clear h0 h3 e0 e1 e2 e3 e4
        obtain ⟨e0, e1, e2, e3, e4⟩ := st5c h2.1.1.2
        go_wp2_with (first
          | (go_at_call 25; (with_reducible refine (PM.out _ _ h2.2).mono ?_); rintro e w10 ⟨rfl, hb⟩; replace h2 := k2 hb h2; clear hb; obtain ⟨e0, e1, e2, e3, e4⟩ := st5c h2.1.1.2)
          | (go_at_call 26; (with_reducible refine (SEc.out _ _ h2.1.2.1.1 h2.1.2.2 h2.1.2.1.2.1 h2.1.2.1.2.2 h2.2).mono ?_); rintro e w11 ⟨rfl, hb⟩; replace h2 := k2 hb h2; clear hb; obtain ⟨e0, e1, e2, e3, e4⟩ := st5c h2.1.1.2))
        go_ret
        exact ⟨rfl, h2.1.1.1⟩
      | false =>
        have hX : wholeC bits l o = [] := by unfold wholeC; rw [hw]; rfl
        have hpair : ∃ j i, i < j ∧ j < bits.length ∧ pairAt (leftTo bits l o bits.length) (rightTo bits l o bits.length) j i := by
          rcases whole_or hk1 hk2 with e | ⟨i, j, a, b, e⟩
          · rw [hw] at e; cases e
          · rw [← hk1.lb] at b
            refine ⟨j, i, a, b, ?_⟩
            unfold pairAt
            rw [leftTo_get b, leftTo_get (by omega), rightTo_get b, rightTo_get (by omega)]
            exact e
        have PLc := Lib.hid (fun W hb hl ho => PL.out W hb hl ho (by rw [hk1.lb]; exact hk1.lg) (by rw [hk1.lb]; exact hk2.lg) (by omega))
        have hLl := leftTo_length bits l o bits.length
        have hRl := rightTo_length bits l o bits.length
        rw [hw, hX] at WHb
        obtain ⟨L, hL⟩ : ∃ L, leftTo bits l o bits.length = L := ⟨_, rfl⟩
        obtain ⟨R, hR⟩ : ∃ R, rightTo bits l o bits.length = R := ⟨_, rfl⟩
        rw [hL] at PLc hLl hpair
        rw [hR] at PLc hRl hpair
        have HPA := Lib.hid hpair
        have HLl := Lib.hid hLl
        have HRl := Lib.hid hRl
        clear hk1 hk2 hw SE PL hX hL hR hpair hLl hRl
        obtain ⟨e0, e1, e2, e3, e4⟩ := st5c h0.1.2
        go_upto_region 13 with (first
          | (go_at_call 24; (with_reducible refine (LG.out _ _ _ _ _ _ _).mono ?_); rintro e w7 ⟨rfl, hb⟩; replace h0 := k0 hb h0; clear hb)
          | (go_at_call 19; (with_reducible refine (WHb.out _ h0.2.2 h0.2.1.2.1 h0.2.1.2.2).mono ?_); rintro e w8 ⟨v3, rfl, hb, h3⟩; replace h0 := k0 hb h0; obtain ⟨_, A3, c3, rfl, _⟩ := id h3; clear hb h3)
          | (go_at_call 27; (with_reducible refine (PLc.out _ h0.2.2 h0.2.1.2.1 h0.2.1.2.2).mono ?_); rintro e w9 ⟨vl, vr, rfl, hb, hvl, hvr⟩; replace h0 := k0 hb h0; clear hb))
        have hB := h0.1.1
        have HL := Lib.hid hvl
        have HR := Lib.hid hvr
        obtain ⟨_, AL, cL, ea, _⟩ := hvl
        obtain ⟨_, AR, cR, eb, _⟩ := hvr
        subst ea eb
        clear h0 k0 e0 e1 e2 e3 e4 LG WHb PLc HT HMO HLO HOO
        obtain ⟨W9, rfl⟩ : ∃ W : World, W = w9 := ⟨_, rfl⟩
        go_wp2_with fail
        go_loopg [89] bits.length (fun g i wr => ∃ j : Nat, i = .int .i64 j ∧ j + g = bits.length ∧ Below W9.heap.size W9 wr ∧ ∀ j', j' < j → ∀ i', i' < j' → ¬ pairAt L R j' i')
        case atStart => exact ⟨0, rfl, by omega, Below.refl _ _, fun j' hj => absurd hj (by omega)⟩
        case round =>
          obtain ⟨j, rfl, hjg, hBr, hall⟩ := hrel
          by_cases hj : j < bits.length
          · have HA := Lib.hid hall
            clear hall
            obtain ⟨G, rfl⟩ : ∃ G : Nat, G = gk := ⟨_, rfl⟩
            obtain ⟨wo, rfl⟩ : ∃ wo : World, wo = wr := ⟨_, rfl⟩
            go_wp2_with fail
            go_loopg [93] j (fun g i wr2 => ∃ k : Nat, i = .int .i64 k ∧ k + g = j ∧ Below W9.heap.size W9 wr2 ∧ ∀ i', i' < k → ¬ pairAt L R j i')
            case atStart => exact ⟨0, rfl, by omega, hBr, fun i' hi => absurd hi (by omega)⟩
            case round =>
              clear hBr
              obtain ⟨k, rfl, hkg, hBr, hne⟩ := hrel
              by_cases hk : k < j
              · obtain ⟨b0, o0, a0, hb0, d0⟩ := sl_at (HL.out.below hBr) (j := j) (by rw [HLl.out]; exact hj)
                obtain ⟨b1, o1, a1, hb1, d1⟩ := sl_at (HR.out.below hBr) (j := j) (by rw [HRl.out]; exact hj)
                obtain ⟨_, _, a2, _, d2⟩ := sl_at (HL.out.below hBr) (j := k) (by rw [HLl.out]; omega)
                obtain ⟨_, _, a3, _, d3⟩ := sl_at (HR.out.below hBr) (j := k) (by rw [HRl.out]; omega)
                subst a0 a1
                injection a2 with a2
                injection a2 with x1 x2
                injection a3 with a3
                injection a3 with x3 x4
                subst x1 x2 x3 x4
                have f0 := d0 0 (by omega)
                have f1 := d1 0 (by omega)
                have f2 := d2 0 (by omega)
                have f3 := d3 0 (by omega)
                simp only [encI, List.getD_cons_zero, Nat.add_zero, Nat.mul_one] at f0 f1 f2 f3
                have hp : pairAt L R j k ↔ (L.getD j default = L.getD k default ∨ R.getD j default = R.getD k default) := Iff.rfl
                have hnx : ¬ pairAt L R j k → ∀ i', i' < k + 1 → ¬ pairAt L R j i' := fun h i' hi => by
                  rcases Nat.lt_or_ge i' k with h1 | h1
                  · exact hne i' h1
                  · obtain rfl : i' = k := by omega
                    exact h
                generalize L.getD j default = y0 at *
                generalize R.getD j default = y1 at *
                generalize L.getD k default = y2 at *
                generalize R.getD k default = y3 at *
                have HP := Lib.hid hp
                have HN := Lib.hid hnx
                clear d0 d1 d2 d3 hp hnx hne
                have s1 : (0 : Int) ≤ (j : Int) := by omega
                have s2 : (0 : Int) ≤ (k : Int) := by omega
                have s3 : ((j : Int)).toNat = j := by omega
                have s4 : ((k : Int)).toNat = k := by omega
                have s5 : (j : Int) < L.length := by rw [HLl.out]; omega
                have s6 : (k : Int) < L.length := by rw [HLl.out]; omega
                have s7 : (j : Int) < R.length := by rw [HRl.out]; omega
                have s8 : (k : Int) < R.length := by rw [HRl.out]; omega
                by_cases q0 : y0 = y2
                · have t0 : (y0 == y2) = true := by simpa using q0
                  clear q0
                  go_wp2_with fail
                  go_quiet (fail)
                  clear s1 s2 s3 s4 s5 s6 s7 s8
                  go_wp2_with fail
                  go_ret
                  exact ⟨rfl, by first | exact hB.trans (hBr.mono hB.size) | exact (hB.trans (hBr.mono hB.size)).trans (below_drewN _ _ _)⟩
                · have t0 : (y0 == y2) = false := by simpa using q0
                  by_cases q1 : y1 = y3
                  · have t1 : (y1 == y3) = true := by simpa using q1
                    clear q0 q1
                    go_wp2_with fail
                    go_quiet (fail)
                    clear s1 s2 s3 s4 s5 s6 s7 s8
                    go_wp2_with fail
                    go_ret
                    exact ⟨rfl, by first | exact hB.trans (hBr.mono hB.size) | exact (hB.trans (hBr.mono hB.size)).trans (below_drewN _ _ _)⟩
                  · have t1 : (y1 == y3) = false := by simpa using q1
                    have HX := Lib.hid (HN.out (fun h => by
                      rcases HP.out.1 h with e | e
                      · exact q0 e
                      · exact q1 e))
                    clear q0 q1
                    go_wp2_with fail
                    go_quiet (fail)
                    clear s1 s2 s3 s4 s5 s6 s7 s8
                    go_wp2_with fail
                    go_roundg (gk - 1)
                    case measure => omega
                    case rel => exact ⟨k + 1, by first | rfl | go_num, by omega, by first | exact hBr | exact hBr.trans (below_drewN _ _ _), HX.out⟩
              · have HX := Lib.hid (show ∀ j', j' < j + 1 → ∀ i', i' < j' → ¬ pairAt L R j' i' from fun j' hj' i' hi' => by
                  rcases Nat.lt_or_ge j' j with h1 | h1
                  · exact HA.out j' h1 i' hi'
                  · obtain rfl : j' = j := by omega
                    exact hne i' (by omega))
                clear hne
                go_wp2_with fail
                go_roundg (G - 1)
                case measure => omega
                case rel => exact ⟨j + 1, by first | rfl | go_num, by omega, hBr, HX.out⟩
          · exfalso
            obtain ⟨j', i', a, b, e⟩ := HPA.out
            exact hall j' (by omega) i' a e
end Go.Proofs.YthboebhghaabnaaDoor
