import Derived.Test.YthboebhghaabnaaDoorPsl
set_option linter.unusedSimpArgs false
set_option linter.unusedVariables false
namespace Go.Proofs.YthboebhghaabnaaDoor
open Go.RowKit Fk Sha
/-! ShuffleSound. -/
set_option maxRecDepth 100000 in
set_option maxHeartbeats 8000000 in
theorem shuffleSound_walk (key : Int) (m : Mx) (x : MxA) (l : List Og) (v1 : Value) (o : List Og) (v2 : Value) (w : World) (hT0 : Tab w) (hz0 : 1 < w.heap.size ∧ 0 < w.heap.size)
    (hm : MxS w w.heap.size x m) (h1 : SlG 36 Og.cells w w.heap.size v1 l) (h2 : SlG 36 Og.cells w w.heap.size v2 o)
    (_ : (Lit.int .i64 key).wf = true) (hmo : MxOK m) (hlo : ∀ i, i < l.length → wfOg (l.getD i default)) (hoo : ∀ i, i < o.length → wfOg (o.getD i default)) :
    Calls Tryd.prog 5 #[.int .i64 key, .agg (x.cells m).toArray, v1, v2] w fun e w' => e = .returned (.bool true) ∧ Below w.heap.size w w' := by
  have hT : TabS w := ⟨hT0, hz0⟩
  have HT := Lib.hid hT
  have SN := Lib.hid (fun W (hb : Below w.heap.size w W) => sane14_any W (HT.out.below hb))
  have F1 := Lib.hid (fun W => fewmix_any m x W)
  have F2 := Lib.hid (fun A c W => fewopened_any 0 l.length none A 0 c W)
  have F3 := Lib.hid (fun A c W => fewopened_any 0 o.length none A 0 c W)
  have hB := below_alloc' w (.cells (x.cells m).toArray 45)
  have r0 := Row.new w 45 (x.cells m)
  obtain ⟨W, hW⟩ : ∃ W, w.alloc (.cells (x.cells m).toArray 45) = W := ⟨_, rfl⟩
  replace r0 : Row W w.heap.size 45 (x.cells m) := hW ▸ r0
  replace hB : Below w.heap.size w W := hW ▸ hB
  -- what stands from the box on
  have k0 : Kp fun W' => (Below w.heap.size w W' ∧ Row W' w.heap.size 45 (x.cells m)) ∧ MxS W' W'.heap.size x m ∧ SlG 36 Og.cells W' W'.heap.size v1 l ∧ SlG 36 Og.cells W' W'.heap.size v2 o := by intro W W' hb ⟨⟨a, b⟩, c, d, e⟩; exact ⟨⟨Kp.from w hb a, Kp.row hb b⟩, Kp.mx hb c, Kp.sl hb d, Kp.sl hb e⟩
  have h0 : (fun W' => (Below w.heap.size w W' ∧ Row W' w.heap.size 45 (x.cells m)) ∧ MxS W' W'.heap.size x m ∧ SlG 36 Og.cells W' W'.heap.size v1 l ∧ SlG 36 Og.cells W' W'.heap.size v2 o) W := ⟨⟨hB, r0⟩, (hm.below hB).mono hB.size, (h1.below hB).mono hB.size, (h2.below hB).mono hB.size⟩
  have HMO := Lib.hid hmo
  have HLO := Lib.hid (wfOg_all hlo)
  have HOO := Lib.hid (wfOg_all hoo)
  have CK := Lib.hid (fun (bits : List Int) (v0 : Value) (W : World) (hb : Below w.heap.size w W) (hm : MxS W W.heap.size x m) (hbt : SlI W W.heap.size v0 bits) (hl : SlG 36 Og.cells W W.heap.size v1 l) => check_any key x m bits l v0 v1 W (HT.out.below hb) hm hbt hl HMO.out HLO.out)
  have CO := Lib.hid (fun (bits : List Int) (v0 : Value) (W : World) (hb : Below w.heap.size w W) (hm : MxS W W.heap.size x m) (hbt : SlI W W.heap.size v0 bits) (hl : SlG 36 Og.cells W W.heap.size v2 o) => check_any key x m bits o v0 v2 W (HT.out.below hb) hm hbt hl HMO.out HOO.out)
  have SE := Lib.hid (fun (bits : List Int) (v0 v3 : Value) (W : World) (h : Chk key m bits l) (h2 : Chk key m (opp bits) o) hw hm hb hl ho hp => sealed_any key m x bits l o v0 v1 v2 v3 W h h2 hw hm hb hl ho hp (fun i hi => (HLO.out i hi).2) (fun i hi => (HOO.out i hi).2))
  have LG := Lib.hid (fun n A A1 A2 c c1 c2 W => long_any m x n l.length o.length A A1 A2 c c1 c2 W)
  have WH := Lib.hid (fun (bits : List Int) (v0 : Value) (W : World) hb hl ho => whole_any bits l o v0 v1 v2 W hb hl ho)
  obtain ⟨_, A1, c1, rfl, _⟩ := h1
  obtain ⟨_, A2, c2, rfl, _⟩ := h2
  obtain ⟨ai, ci, am, cm, ao, co, al, cl, ar, cr⟩ := x
  have hx : (MxA.cells ⟨ai, ci, am, cm, ao, co, al, cl, ar, cr⟩ m) = [.slice ai m.i.length ci, .slice am m.m.length cm, .slice ao m.o.length co, .slice al m.l.length cl, .slice ar m.r.length cr] := rfl
  rw [hx] at F1 h0 k0 hW CK CO SE LG ⊢
  replace hW : w.alloc (.cells #[.slice ai m.i.length ci, .slice am m.m.length cm, .slice ao m.o.length co, .slice al m.l.length cl, .slice ar m.r.length cr] 45) = W := hW
  clear hT0 hz0 hT hm hmo hlo hoo hB r0 hx
  cases f1 : fewMx m with
  | false =>
    rw [f1] at F1
    go_enter Tryd.func5, Tryd.ntmps5
    go_upto_region 1 with fail
    try rw [hW]
    clear hW
    go_wp2_with (first
      | (go_at_call 10; (with_reducible refine (SN.out _ h0.1.1).mono ?_); rintro e w1 ⟨rfl, hb⟩; replace h0 := k0 hb h0; clear hb; obtain ⟨e0, e1, e2, e3, e4⟩ := st5c h0.1.2)
      | (go_at_call 21; (with_reducible refine (F1.out _).mono ?_); rintro e w2 ⟨rfl, hb⟩; replace h0 := k0 hb h0; clear hb; obtain ⟨e0, e1, e2, e3, e4⟩ := st5c h0.1.2))
    go_ret
    exact ⟨rfl, h0.1.1⟩
  | true =>
  rw [f1] at F1
  cases f2 : fewOg 0 l.length with
  | false =>
    rw [f2] at F2
    go_enter Tryd.func5, Tryd.ntmps5
    go_upto_region 1 with fail
    try rw [hW]
    clear hW
    go_wp2_with (first
      | (go_at_call 10; (with_reducible refine (SN.out _ h0.1.1).mono ?_); rintro e w1 ⟨rfl, hb⟩; replace h0 := k0 hb h0; clear hb; obtain ⟨e0, e1, e2, e3, e4⟩ := st5c h0.1.2)
      | (go_at_call 21; (with_reducible refine (F1.out _).mono ?_); rintro e w2 ⟨rfl, hb⟩; replace h0 := k0 hb h0; clear hb; obtain ⟨e0, e1, e2, e3, e4⟩ := st5c h0.1.2)
      | (go_at_call 12; (with_reducible refine (F2.out _ _ _).mono ?_); rintro e w3 ⟨rfl, hb⟩; replace h0 := k0 hb h0; clear hb; obtain ⟨e0, e1, e2, e3, e4⟩ := st5c h0.1.2))
    go_ret
    exact ⟨rfl, h0.1.1⟩
  | true =>
  rw [f2] at F2
  cases f3 : fewOg 0 o.length with
  | false =>
    rw [f3] at F3
    go_enter Tryd.func5, Tryd.ntmps5
    go_upto_region 1 with fail
    try rw [hW]
    clear hW
    go_wp2_with (first
      | (go_at_call 10; (with_reducible refine (SN.out _ h0.1.1).mono ?_); rintro e w1 ⟨rfl, hb⟩; replace h0 := k0 hb h0; clear hb; obtain ⟨e0, e1, e2, e3, e4⟩ := st5c h0.1.2)
      | (go_at_call 21; (with_reducible refine (F1.out _).mono ?_); rintro e w2 ⟨rfl, hb⟩; replace h0 := k0 hb h0; clear hb; obtain ⟨e0, e1, e2, e3, e4⟩ := st5c h0.1.2)
      | (go_at_call 12; (with_reducible refine (F2.out _ _ _).mono ?_); rintro e w3 ⟨rfl, hb⟩; replace h0 := k0 hb h0; clear hb; obtain ⟨e0, e1, e2, e3, e4⟩ := st5c h0.1.2)
      | (go_at_call 12; (with_reducible refine (F3.out _ _ _).mono ?_); rintro e w4 ⟨rfl, hb⟩; replace h0 := k0 hb h0; clear hb; obtain ⟨e0, e1, e2, e3, e4⟩ := st5c h0.1.2))
    go_ret
    exact ⟨rfl, h0.1.1⟩
  | true =>
  rw [f3] at F3
  have hn6 : m.i.length ≤ 6 := by
    unfold fewMx at f1
    simp only [Bool.and_eq_true, decide_eq_true_iff] at f1
    exact f1.1
  clear f1 f2 f3
  obtain ⟨Z, hZ⟩ : ∃ Z, (List.replicate m.i.length (Value.int .i64 0)).toArray = Z := ⟨_, rfl⟩
  have hmk : ∀ w : World, (Instr.makeSlice 22 (.int .i64 (m.i.length : Int)) (.int .i64 (m.i.length : Int))).run Tryd.prog w = .ok (.slice (some ⟨w.heap.size, 0, none⟩) m.i.length m.i.length) (w.alloc (.cells Z 3)) := fun w => by rw [← hZ]; exact make_ints _ (by omega) w
  go_enter Tryd.func5, Tryd.ntmps5
  go_upto_region 1 with fail
  try rw [hW]
  clear hW
  go_upto_region 6 with (first
    | (go_at_call 10; (with_reducible refine (SN.out _ h0.1.1).mono ?_); rintro e w1 ⟨rfl, hb⟩; replace h0 := k0 hb h0; clear hb; obtain ⟨e0, e1, e2, e3, e4⟩ := st5c h0.1.2)
    | (go_at_call 21; (with_reducible refine (F1.out _).mono ?_); rintro e w2 ⟨rfl, hb⟩; replace h0 := k0 hb h0; clear hb; obtain ⟨e0, e1, e2, e3, e4⟩ := st5c h0.1.2)
    | (go_at_call 12; (with_reducible refine (F2.out _ _ _).mono ?_); rintro e w3 ⟨rfl, hb⟩; replace h0 := k0 hb h0; clear hb; obtain ⟨e0, e1, e2, e3, e4⟩ := st5c h0.1.2)
    | (go_at_call 12; (with_reducible refine (F3.out _ _ _).mono ?_); rintro e w4 ⟨rfl, hb⟩; replace h0 := k0 hb h0; clear hb; obtain ⟨e0, e1, e2, e3, e4⟩ := st5c h0.1.2))
  have hzr : SlI (w4.alloc (.cells Z 3)) (w4.alloc (.cells Z 3)).heap.size (.slice (some ⟨w4.heap.size, 0, none⟩) m.i.length m.i.length) (List.replicate m.i.length 0) := by
    have := Row.sl (m := 1) (enc := encI) (c := m.i.length) (l := List.replicate m.i.length (0 : Int)) (B0 := w4.heap.size + 1) (w := w4.alloc (.cells Z 3)) (g := w4.heap.size) (t := 3) (by
      rw [flat_ints, List.map_replicate, ← hZ]
      exact Row.new w4 _ _) (fun _ => rfl) (by rw [List.length_replicate]; omega) (Nat.lt_succ_self _)
    rw [List.length_replicate] at this
    rw [World.size_alloc]
    exact this
  have hb := below_alloc' w4 (.cells Z 3)
  replace h0 := k0 hb h0
  clear hb hmk hZ e0 e1 e2 e3 e4 SN F1 F2 F3
  generalize w4.alloc (.cells Z 3) = W5 at *
  generalize w4.heap.size = gz at *
  have hbl : (List.replicate m.i.length (0 : Int)).length = m.i.length := List.length_replicate
  have hz := zeros_get m.i.length
  generalize List.replicate m.i.length (0 : Int) = bits at *
  have CKb := Lib.hid (fun W => CK.out bits (.slice (some ⟨gz, 0, none⟩) m.i.length m.i.length) W)
  have OPb := Lib.hid (fun W (h : SlI W W.heap.size (.slice (some ⟨gz, 0, none⟩) m.i.length m.i.length) bits) => opposite_any bits (.slice (some ⟨gz, 0, none⟩) m.i.length m.i.length) W h (by omega) (fun i hi => by rw [hz i hi]; decide))
  have COb := Lib.hid (fun v W => CO.out (opp bits) v W)
  have WHb := Lib.hid (fun W => WH.out bits (.slice (some ⟨gz, 0, none⟩) m.i.length m.i.length) W)
  have SEb := Lib.hid (fun v W => SE.out bits (.slice (some ⟨gz, 0, none⟩) m.i.length m.i.length) v W)
  have HZ := Lib.hid hz
  clear CK CO WH SE hz
  have k1 : Kp fun W' => (((Below w.heap.size w W' ∧ Row W' w.heap.size 45 [.slice ai m.i.length ci, .slice am m.m.length cm, .slice ao m.o.length co, .slice al m.l.length cl, .slice ar m.r.length cr]) ∧ MxS W' W'.heap.size ⟨ai, ci, am, cm, ao, co, al, cl, ar, cr⟩ m ∧ SlG 36 Og.cells W' W'.heap.size (.slice A1 l.length c1) l ∧ SlG 36 Og.cells W' W'.heap.size (.slice A2 o.length c2) o) ∧ SlI W' W'.heap.size (.slice (some ⟨gz, 0, none⟩) m.i.length m.i.length) bits) := by intro W W' hb ⟨a, b⟩; exact ⟨k0 hb a, Kp.sl hb b⟩
  have h1 : (fun W' => (((Below w.heap.size w W' ∧ Row W' w.heap.size 45 [.slice ai m.i.length ci, .slice am m.m.length cm, .slice ao m.o.length co, .slice al m.l.length cl, .slice ar m.r.length cr]) ∧ MxS W' W'.heap.size ⟨ai, ci, am, cm, ao, co, al, cl, ar, cr⟩ m ∧ SlG 36 Og.cells W' W'.heap.size (.slice A1 l.length c1) l ∧ SlG 36 Og.cells W' W'.heap.size (.slice A2 o.length c2) o) ∧ SlI W' W'.heap.size (.slice (some ⟨gz, 0, none⟩) m.i.length m.i.length) bits)) W5 := ⟨h0, hzr⟩
  clear h0 hzr
  go_cut [45] from 31 to 45 (fun v W' => v = .bool (!(checkB key m bits l && checkB key m (opp bits) o)) ∧ (((Below w.heap.size w W' ∧ Row W' w.heap.size 45 [.slice ai m.i.length ci, .slice am m.m.length cm, .slice ao m.o.length co, .slice al m.l.length cl, .slice ar m.r.length cr]) ∧ MxS W' W'.heap.size ⟨ai, ci, am, cm, ao, co, al, cl, ar, cr⟩ m ∧ SlG 36 Og.cells W' W'.heap.size (.slice A1 l.length c1) l ∧ SlG 36 Og.cells W' W'.heap.size (.slice A2 o.length c2) o) ∧ SlI W' W'.heap.size (.slice (some ⟨gz, 0, none⟩) m.i.length m.i.length) bits))
  case first =>
    have HC := Lib.hid (fun W' (h : (((Below w.heap.size w W' ∧ Row W' w.heap.size 45 [.slice ai m.i.length ci, .slice am m.m.length cm, .slice ao m.o.length co, .slice al m.l.length cl, .slice ar m.r.length cr]) ∧ MxS W' W'.heap.size ⟨ai, ci, am, cm, ao, co, al, cl, ar, cr⟩ m ∧ SlG 36 Og.cells W' W'.heap.size (.slice A1 l.length c1) l ∧ SlG 36 Og.cells W' W'.heap.size (.slice A2 o.length c2) o) ∧ SlI W' W'.heap.size (.slice (some ⟨gz, 0, none⟩) m.i.length m.i.length) bits)) => st5c h.1.1.2)
    cases g1 : checkB key m bits l with
    | false =>
      rw [g1] at CKb
      refine wp_region_tree 14 (.take 0 (.take 1 (.take 2 (.take 3 (.one 4 (.take 5 (.take 6 (.take 7 (.take 8 (.take 9 (.take 10 (.take 11 (.take 12 (.take 13 .done))))))))))))))
        (fun W' => (((Below w.heap.size w W' ∧ Row W' w.heap.size 45 [.slice ai m.i.length ci, .slice am m.m.length cm, .slice ao m.o.length co, .slice al m.l.length cl, .slice ar m.r.length cr]) ∧ MxS W' W'.heap.size ⟨ai, ci, am, cm, ao, co, al, cl, ar, cr⟩ m ∧ SlG 36 Og.cells W' W'.heap.size (.slice A1 l.length c1) l ∧ SlG 36 Og.cells W' W'.heap.size (.slice A2 o.length c2) o) ∧ SlI W' W'.heap.size (.slice (some ⟨gz, 0, none⟩) m.i.length m.i.length) bits)) (by kernel_rfl) (by kernel_rfl) (fun _ _ d _ _ h => by cases d <;> exact h) (k1 (Below.refl _ _).drew h1) ?_
      replace h1 := k1 (Below.refl _ _).drew h1
      generalize W5.drew = V1 at *
      iterate 4
        refine wpTree_take (v := ?_) rfl (by kernel_rfl) (fun w hSw => ?_) ?_
        rotate_left 1
        · obtain ⟨e0, e1, e2, e3, e4⟩ := HC.out _ hSw
          go_simp
          with_reducible rfl
        simp only [Act.put, List.setIfInBounds_toArray, List.set_cons_zero, List.set_cons_succ]
      refine wpTree_one rfl (fun K hK => ⟨by kernel_rfl, ?_⟩)
      go_simp
      go_at_call 22
      refine (CKb.out _ h1.1.1.1 h1.1.2.1 h1.2 h1.1.2.2.1).mono ?_
      rintro e V2 ⟨rfl, hb⟩
      replace h1 := k1 hb h1
      refine hK _ _ h1 ?_
      clear hK K hb
      try simp only [Act.put, List.setIfInBounds_toArray, List.set_cons_zero, List.set_cons_succ]
      iterate 2
        refine wpTree_take (v := ?_) rfl (by kernel_rfl) (fun w hSw => ?_) ?_
        rotate_left 1
        · go_simp
          with_reducible rfl
        simp only [Act.put, List.setIfInBounds_toArray, List.set_cons_zero, List.set_cons_succ]
      iterate 7
        refine wpTree_skip rfl (by kernel_rfl) ?_
        simp only [Act.put, List.setIfInBounds_toArray, List.set_cons_zero, List.set_cons_succ]
      refine wpTree_done ?_
      simp only [List.drop_succ_cons, List.drop_zero]
      go_wp2_with fail
      go_meet
      exact ⟨by rw [g1]; rfl, h1⟩
    | true =>
      rw [g1] at CKb
      cases g2 : checkB key m (opp bits) o
      all_goals
        rw [g2] at COb
        refine wp_region_tree 14 (.take 0 (.take 1 (.take 2 (.take 3 (.one 4 (.take 5 (.take 6 (.take 7 (.take 8 (.take 9 (.take 11 (.one 10 (.one 12 (.take 13 .done))))))))))))))
          (fun W' => (((Below w.heap.size w W' ∧ Row W' w.heap.size 45 [.slice ai m.i.length ci, .slice am m.m.length cm, .slice ao m.o.length co, .slice al m.l.length cl, .slice ar m.r.length cr]) ∧ MxS W' W'.heap.size ⟨ai, ci, am, cm, ao, co, al, cl, ar, cr⟩ m ∧ SlG 36 Og.cells W' W'.heap.size (.slice A1 l.length c1) l ∧ SlG 36 Og.cells W' W'.heap.size (.slice A2 o.length c2) o) ∧ SlI W' W'.heap.size (.slice (some ⟨gz, 0, none⟩) m.i.length m.i.length) bits)) (by kernel_rfl) (by kernel_rfl) (fun _ _ d _ _ h => by cases d <;> exact h) (k1 (Below.refl _ _).drew h1) ?_
        replace h1 := k1 (Below.refl _ _).drew h1
        generalize W5.drew = V1 at *
        iterate 4
          refine wpTree_take (v := ?_) rfl (by kernel_rfl) (fun w hSw => ?_) ?_
          rotate_left 1
          · obtain ⟨e0, e1, e2, e3, e4⟩ := HC.out _ hSw
            go_simp
            with_reducible rfl
          simp only [Act.put, List.setIfInBounds_toArray, List.set_cons_zero, List.set_cons_succ]
        refine wpTree_one rfl (fun K hK => ⟨by kernel_rfl, ?_⟩)
        go_simp
        go_at_call 22
        refine (CKb.out _ h1.1.1.1 h1.1.2.1 h1.2 h1.1.2.2.1).mono ?_
        rintro e V2 ⟨rfl, hb⟩
        replace h1 := k1 hb h1
        refine hK _ _ h1 ?_
        clear hK K hb
        try simp only [Act.put, List.setIfInBounds_toArray, List.set_cons_zero, List.set_cons_succ]
        iterate 6
          refine wpTree_take (v := ?_) rfl (by kernel_rfl) (fun w hSw => ?_) ?_
          rotate_left 1
          · obtain ⟨e0, e1, e2, e3, e4⟩ := HC.out _ hSw
            go_simp
            with_reducible rfl
          simp only [Act.put, List.setIfInBounds_toArray, List.set_cons_zero, List.set_cons_succ]
        refine wpTree_one rfl (fun K hK => ⟨by kernel_rfl, ?_⟩)
        go_simp
        go_at_call 23
        refine (OPb.out _ h1.2).mono ?_
        rintro e V3 ⟨vo, rfl, hb, hvo⟩
        replace h1 := k1 hb h1
        refine hK _ _ h1 ?_
        clear hK K hb
        try simp only [Act.put, List.setIfInBounds_toArray, List.set_cons_zero, List.set_cons_succ]
        refine wpTree_one rfl (fun K hK => ⟨by kernel_rfl, ?_⟩)
        go_simp
        go_at_call 22
        refine (COb.out _ _ h1.1.1.1 h1.1.2.1 hvo h1.1.2.2.2).mono ?_
        rintro e V4 ⟨rfl, hb⟩
        replace h1 := k1 hb h1
        refine hK _ _ h1 ?_
        clear hK K hb
        try simp only [Act.put, List.setIfInBounds_toArray, List.set_cons_zero, List.set_cons_succ]
        refine wpTree_take (v := ?_) rfl (by kernel_rfl) (fun w hSw => ?_) ?_
        rotate_left 1
        · go_simp
          with_reducible rfl
        simp only [Act.put, List.setIfInBounds_toArray, List.set_cons_zero, List.set_cons_succ]
        refine wpTree_done ?_
        simp only [List.drop_succ_cons, List.drop_zero]
        go_wp2_with fail
        go_meet
        exact ⟨by rw [g1, g2]; rfl, h1⟩
  case rest =>
    obtain ⟨rfl, h1⟩ := hcut
    cases hcc : (checkB key m bits l && checkB key m (opp bits) o) with
    | false =>
      go_wp2_with fail
      go_ret
      exact ⟨rfl, h1.1.1.1⟩
    | true =>
      rw [Bool.and_eq_true] at hcc
      have hk1 := checkB_iff.1 hcc.1
      have hk2 := checkB_iff.1 hcc.2
      have hw := whole_all hk1 hk2 HZ.out
      have hwp := whole_perm hw
      have hlg := longMx_true hk1 hk2
      rw [hbl] at hlg
      have LGb := Lib.hid (fun A A1 A2 c c1 c2 W => LG.out m.i.length A A1 A2 c c1 c2 W)
      rw [hlg] at LGb
      have SEc := Lib.hid (fun v W hm hb hl ho hp => SEb.out v W hk1 hk2 hw hm hb hl ho hp)
      rw [hw] at WHb
      obtain ⟨X, hX⟩ : ∃ X, wholeC bits l o = X := ⟨_, rfl⟩
      rw [hX] at WHb hwp SEc
      have PM := Lib.hid (fun v W h => rperm_any X v W h)
      rw [hwp.1] at PM
      have sN : ((X.length : Int) == m.i.length) = true := by
        have := hwp.2.1
        rw [hbl] at this
        simp [this]
      clear hk1 hk2 hw hwp hlg hcc HZ CKb OPb COb SEb LG hX
      go_upto_region 9 with (go_at_call 19; (with_reducible refine (WHb.out _ h1.2 h1.1.2.2.1 h1.1.2.2.2).mono ?_); rintro e w8 ⟨v3, rfl, hb, h3⟩; replace h1 := k1 hb h1; clear hb)
      have k2 : Kp fun W' => ((((Below w.heap.size w W' ∧ Row W' w.heap.size 45 [.slice ai m.i.length ci, .slice am m.m.length cm, .slice ao m.o.length co, .slice al m.l.length cl, .slice ar m.r.length cr]) ∧ MxS W' W'.heap.size ⟨ai, ci, am, cm, ao, co, al, cl, ar, cr⟩ m ∧ SlG 36 Og.cells W' W'.heap.size (.slice A1 l.length c1) l ∧ SlG 36 Og.cells W' W'.heap.size (.slice A2 o.length c2) o) ∧ SlI W' W'.heap.size (.slice (some ⟨gz, 0, none⟩) m.i.length m.i.length) bits)) ∧ SlI W' W'.heap.size v3 X := by intro W W' hb ⟨a, b⟩; exact ⟨k1 hb a, Kp.sl hb b⟩
      have h2 : (fun W' => ((((Below w.heap.size w W' ∧ Row W' w.heap.size 45 [.slice ai m.i.length ci, .slice am m.m.length cm, .slice ao m.o.length co, .slice al m.l.length cl, .slice ar m.r.length cr]) ∧ MxS W' W'.heap.size ⟨ai, ci, am, cm, ao, co, al, cl, ar, cr⟩ m ∧ SlG 36 Og.cells W' W'.heap.size (.slice A1 l.length c1) l ∧ SlG 36 Og.cells W' W'.heap.size (.slice A2 o.length c2) o) ∧ SlI W' W'.heap.size (.slice (some ⟨gz, 0, none⟩) m.i.length m.i.length) bits)) ∧ SlI W' W'.heap.size v3 X) w8 := ⟨h1, h3⟩
      obtain ⟨_, A3, c3, rfl, _⟩ := id h3
      clear h1 h3
      obtain ⟨e0, e1, e2, e3, e4⟩ := st5c h2.1.1.1.2
      go_wp2_with (first
        | (go_at_call 24; (with_reducible refine (LGb.out _ _ _ _ _ _ _).mono ?_); rintro e w9 ⟨rfl, hb⟩; replace h2 := k2 hb h2; clear hb; obtain ⟨e0, e1, e2, e3, e4⟩ := st5c h2.1.1.1.2)
        | (go_at_call 25; (with_reducible refine (PM.out _ _ h2.2).mono ?_); rintro e w10 ⟨rfl, hb⟩; replace h2 := k2 hb h2; clear hb; obtain ⟨e0, e1, e2, e3, e4⟩ := st5c h2.1.1.1.2)
        | (go_at_call 26; (with_reducible refine (SEc.out _ _ h2.1.1.2.1 h2.1.2 h2.1.1.2.2.1 h2.1.1.2.2.2 h2.2).mono ?_); rintro e w11 ⟨rfl, hb⟩; replace h2 := k2 hb h2; clear hb; obtain ⟨e0, e1, e2, e3, e4⟩ := st5c h2.1.1.1.2))
      go_ret
      exact ⟨rfl, h2.1.1.1.1⟩
end Go.Proofs.YthboebhghaabnaaDoor
