import Derived.Test.YthboebhghaabnaaDoorPsq
import Derived.Deep.QuietTactic
import Derived.BigQuiet
set_option linter.unusedSimpArgs false
set_option linter.unusedVariables false
namespace Go.Proofs.YthboebhghaabnaaDoor
open Go.RowKit Fk Sha
/-! ShuffleBound. -/
theorem longMx_two {key : Int} {m : Mx} {bits : List Int} {l o : List Og} (h : Chk key m bits l) (k : Chk key m bits o) : longMx m bits.length l.length o.length = true := by
  unfold longMx
  rw [decide_eq_true (show m.i.length = bits.length by rw [h.lb]), decide_eq_true (show m.o.length = bits.length by rw [h.lb, h.lo]), decide_eq_true (show l.length = bits.length by rw [h.lb, h.lg]), decide_eq_true (show o.length = bits.length by rw [h.lb, k.lg])]
  rfl
theorem conv_bytes {w : World} {B0 b off c : Nat} {l : List B} (h : SlB w B0 (.slice (some ⟨b, off, none⟩) l.length c) l) (hp : 0 < l.length) : (convert 62 9 (.slice (some ⟨b, off, none⟩) l.length c)).run Tryd.prog w = .ok (.string (saltS l)) w := by
  obtain ⟨_, A, c2, hv, hE⟩ := h
  obtain ⟨b2, off2, hA, _, hE⟩ := hE hp
  cases hv
  cases hA
  have hl : (u8s l).length = l.length := by unfold u8s; rw [List.length_map]
  have := run_convert_bytes_back (P := Tryd.prog) w 62 9 5 ⟨b, off, none⟩ c (u8s l) Tryd.underlying62 Tryd.underlying5 Tryd.underlying9 (fun j hj => by
    have hj2 : j < l.length := by omega
    have := hE j hj2 0 (by omega)
    rw [Nat.mul_one, Nat.add_zero] at this
    rw [addr_add0, this, getD_eq_getElem' hj2]
    simp only [u8s, List.getElem_map]
    show some (bv l[j]) = _
    unfold bv bn
    rw [UInt8.toNat_ofNat', Nat.mod_eq_of_lt (by have := l[j].isLt; omega)])
  rw [hl] at this
  exact this
theorem tag0 (w : World) : (Instr.index 61 (.agg #[.string ⟨#[108, 101, 102, 116]⟩, .string ⟨#[114, 105, 103, 104, 116]⟩]) (.int .i64 (bits .and .i64 0 1))).run Tryd.prog w = .ok (.string ⟨#[108, 101, 102, 116]⟩) w := by kernel_rfl
theorem tag1 (w : World) : (Instr.index 61 (.agg #[.string ⟨#[108, 101, 102, 116]⟩, .string ⟨#[114, 105, 103, 104, 116]⟩]) (.int .i64 (bits .and .i64 1 1))).run Tryd.prog w = .ok (.string ⟨#[114, 105, 103, 104, 116]⟩) w := by kernel_rfl
theorem salt_ne {l m : List B} (h : l ≠ m) : ((saltS l).toList == (saltS m).toList) = false := by
  rw [beq_eq_false_iff_ne, ByteArray.toList_eq, ByteArray.toList_eq]
  intro e
  exact h (by rw [← salt_back l, ← salt_back m, e])
theorem com_eq {key : Int} {m : Mx} {bits : List Int} {l o : List Og} (h : Chk key m bits l) (k : Chk key m bits o) {j : Nat} (hj : j < bits.length) : comN (tagOf (bits.getD j default)) (l.getD j default) = comN (tagOf (bits.getD j default)) (o.getD j default) := by
  have hj' : j < m.i.length := by rw [← h.lb]; exact hj
  rw [← (fitsB_iff.1 (h.fit j hj')).com, ← (fitsB_iff.1 (k.fit j hj')).com]
set_option maxRecDepth 100000 in
set_option maxHeartbeats 8000000 in
theorem shuffleBound_walk (key : Int) (m : Mx) (x : MxA) (bits : List Int) (v0 : Value) (l : List Og) (v1 : Value) (o : List Og) (v2 : Value) (w : World) (hT0 : Tab w) (hz0 : 1 < w.heap.size ∧ 0 < w.heap.size)
    (hm : MxS w w.heap.size x m) (h0 : SlI w w.heap.size v0 bits) (h1 : SlG 36 Og.cells w w.heap.size v1 l) (h2 : SlG 36 Og.cells w w.heap.size v2 o)
    (_ : (Lit.int .i64 key).wf = true) (hmo : MxOK m) (_ : ∀ i, i < bits.length → wfI (bits.getD i default)) (hlo : ∀ i, i < l.length → wfOg (l.getD i default)) (hoo : ∀ i, i < o.length → wfOg (o.getD i default)) :
    Calls Tryd.prog 7 #[.int .i64 key, .agg (x.cells m).toArray, v0, v1, v2] w fun e w' => e = .returned (.bool true) ∧ Below w.heap.size w w' := by
  have hT : TabS w := ⟨hT0, hz0⟩
  have HT := Lib.hid hT
  have SN := Lib.hid (fun W (hb : Below w.heap.size w W) => sane14_any W (HT.out.below hb))
  have F1 := Lib.hid (fun W => fewmix_any m x W)
  have F2 := Lib.hid (fun A A1 c c1 W => fewopened_any bits.length l.length A A1 c c1 W)
  have F3 := Lib.hid (fun A c W => fewopened_any 0 o.length none A 0 c W)
  have hB := below_alloc' w (.cells (x.cells m).toArray 45)
  have r0 := Row.new w 45 (x.cells m)
  obtain ⟨W, hW⟩ : ∃ W, w.alloc (.cells (x.cells m).toArray 45) = W := ⟨_, rfl⟩
  replace r0 : Row W w.heap.size 45 (x.cells m) := hW ▸ r0
  replace hB : Below w.heap.size w W := hW ▸ hB
  have k0 : Kp fun W' => ((Below w.heap.size w W' ∧ Row W' w.heap.size 45 (x.cells m)) ∧ (MxS W' W'.heap.size x m ∧ SlG 36 Og.cells W' W'.heap.size v1 l ∧ SlG 36 Og.cells W' W'.heap.size v2 o) ∧ SlI W' W'.heap.size v0 bits) := by intro W W' hb ⟨⟨a, b⟩, ⟨c, d, e⟩, f⟩; exact ⟨⟨Kp.from w hb a, Kp.row hb b⟩, ⟨Kp.mx hb c, Kp.sl hb d, Kp.sl hb e⟩, Kp.sl hb f⟩
  replace h0 : (fun W' => ((Below w.heap.size w W' ∧ Row W' w.heap.size 45 (x.cells m)) ∧ (MxS W' W'.heap.size x m ∧ SlG 36 Og.cells W' W'.heap.size v1 l ∧ SlG 36 Og.cells W' W'.heap.size v2 o) ∧ SlI W' W'.heap.size v0 bits)) W := ⟨⟨hB, r0⟩, ⟨(hm.below hB).mono hB.size, (h1.below hB).mono hB.size, (h2.below hB).mono hB.size⟩, (h0.below hB).mono hB.size⟩
  have HMO := Lib.hid hmo
  have HLO := Lib.hid (wfOg_all hlo)
  have HOO := Lib.hid (wfOg_all hoo)
  have CKb := Lib.hid (fun (W : World) (hb : Below w.heap.size w W) (hm : MxS W W.heap.size x m) (hbt : SlI W W.heap.size v0 bits) (hl : SlG 36 Og.cells W W.heap.size v1 l) => check_any key x m bits l v0 v1 W (HT.out.below hb) hm hbt hl HMO.out HLO.out)
  have COb := Lib.hid (fun (W : World) (hb : Below w.heap.size w W) (hm : MxS W W.heap.size x m) (hbt : SlI W W.heap.size v0 bits) (hl : SlG 36 Og.cells W W.heap.size v2 o) => check_any key x m bits o v0 v2 W (HT.out.below hb) hm hbt hl HMO.out HOO.out)
  have LG := Lib.hid (fun A A1 A2 c c1 c2 W => long_any m x bits.length l.length o.length A A1 A2 c c1 c2 W)
  obtain ⟨_, A0, c0, rfl, _⟩ := id h0.2.2
  obtain ⟨_, A1, c1, rfl, _⟩ := h1
  obtain ⟨_, A2, c2, rfl, _⟩ := h2
  obtain ⟨ai, ci, am, cm, ao, co, al, cl, ar, cr⟩ := x
  have hx : (MxA.cells ⟨ai, ci, am, cm, ao, co, al, cl, ar, cr⟩ m) = [.slice ai m.i.length ci, .slice am m.m.length cm, .slice ao m.o.length co, .slice al m.l.length cl, .slice ar m.r.length cr] := rfl
  rw [hx] at F1 h0 k0 hW CKb COb LG ⊢
  replace hW : w.alloc (.cells #[.slice ai m.i.length ci, .slice am m.m.length cm, .slice ao m.o.length co, .slice al m.l.length cl, .slice ar m.r.length cr] 45) = W := hW
  clear hT0 hz0 hT hm hmo hlo hoo hB r0 hx
  cases f1 : fewMx m with
  | false =>
    rw [f1] at F1
    go_enter Tryd.func7, Tryd.ntmps7
    go_upto_region 1 with fail
    try rw [hW]
    clear hW
    go_wp2_with (first
      | (go_at_call 10; (with_reducible refine (SN.out _ h0.1.1).mono ?_); rintro e w1 ⟨rfl, hb⟩; replace h0 := k0 hb h0; clear hb; obtain ⟨e0, e1, e2, e3, e4⟩ := st5c h0.1.2)
      | (go_at_call 21; (with_reducible refine (F1.out _).mono ?_); rintro e w2 ⟨rfl, hb⟩; replace h0 := k0 hb h0; clear hb; obtain ⟨e0, e1, e2, e3, e4⟩ := st5c h0.1.2))
    go_ret
    exact ⟨rfl, h0.1.1⟩
  | true =>
  rw [f1] at F1
  cases f2 : fewOg bits.length l.length with
  | false =>
    rw [f2] at F2
    go_enter Tryd.func7, Tryd.ntmps7
    go_upto_region 1 with fail
    try rw [hW]
    clear hW
    go_wp2_with (first
      | (go_at_call 10; (with_reducible refine (SN.out _ h0.1.1).mono ?_); rintro e w1 ⟨rfl, hb⟩; replace h0 := k0 hb h0; clear hb; obtain ⟨e0, e1, e2, e3, e4⟩ := st5c h0.1.2)
      | (go_at_call 21; (with_reducible refine (F1.out _).mono ?_); rintro e w2 ⟨rfl, hb⟩; replace h0 := k0 hb h0; clear hb; obtain ⟨e0, e1, e2, e3, e4⟩ := st5c h0.1.2)
      | (go_at_call 12; (with_reducible refine (F2.out _ _ _ _ _).mono ?_); rintro e w3 ⟨rfl, hb⟩; replace h0 := k0 hb h0; clear hb; obtain ⟨e0, e1, e2, e3, e4⟩ := st5c h0.1.2))
    go_ret
    exact ⟨rfl, h0.1.1⟩
  | true =>
  rw [f2] at F2
  cases f3 : fewOg 0 o.length with
  | false =>
    rw [f3] at F3
    go_enter Tryd.func7, Tryd.ntmps7
    go_upto_region 1 with fail
    try rw [hW]
    clear hW
    go_wp2_with (first
      | (go_at_call 10; (with_reducible refine (SN.out _ h0.1.1).mono ?_); rintro e w1 ⟨rfl, hb⟩; replace h0 := k0 hb h0; clear hb; obtain ⟨e0, e1, e2, e3, e4⟩ := st5c h0.1.2)
      | (go_at_call 21; (with_reducible refine (F1.out _).mono ?_); rintro e w2 ⟨rfl, hb⟩; replace h0 := k0 hb h0; clear hb; obtain ⟨e0, e1, e2, e3, e4⟩ := st5c h0.1.2)
      | (go_at_call 12; (with_reducible refine (F2.out _ _ _ _ _).mono ?_); rintro e w3 ⟨rfl, hb⟩; replace h0 := k0 hb h0; clear hb; obtain ⟨e0, e1, e2, e3, e4⟩ := st5c h0.1.2)
      | (go_at_call 12; (with_reducible refine (F3.out _ _ _).mono ?_); rintro e w4 ⟨rfl, hb⟩; replace h0 := k0 hb h0; clear hb; obtain ⟨e0, e1, e2, e3, e4⟩ := st5c h0.1.2))
    go_ret
    exact ⟨rfl, h0.1.1⟩
  | true =>
  rw [f3] at F3
  have hb7 : bits.length ≤ 7 := by
    unfold fewOg at f2
    simp only [Bool.and_eq_true, decide_eq_true_iff] at f2
    exact f2.1
  clear f1 f2 f3
  go_enter Tryd.func7, Tryd.ntmps7
  go_upto_region 1 with fail
  try rw [hW]
  clear hW
  go_upto_region 5 with (first
    | (go_at_call 10; (with_reducible refine (SN.out _ h0.1.1).mono ?_); rintro e w1 ⟨rfl, hb⟩; replace h0 := k0 hb h0; clear hb; obtain ⟨e0, e1, e2, e3, e4⟩ := st5c h0.1.2)
    | (go_at_call 21; (with_reducible refine (F1.out _).mono ?_); rintro e w2 ⟨rfl, hb⟩; replace h0 := k0 hb h0; clear hb; obtain ⟨e0, e1, e2, e3, e4⟩ := st5c h0.1.2)
    | (go_at_call 12; (with_reducible refine (F2.out _ _ _ _ _).mono ?_); rintro e w3 ⟨rfl, hb⟩; replace h0 := k0 hb h0; clear hb; obtain ⟨e0, e1, e2, e3, e4⟩ := st5c h0.1.2)
    | (go_at_call 12; (with_reducible refine (F3.out _ _ _).mono ?_); rintro e w4 ⟨rfl, hb⟩; replace h0 := k0 hb h0; clear hb; obtain ⟨e0, e1, e2, e3, e4⟩ := st5c h0.1.2))
  clear e0 e1 e2 e3 e4 SN F1 F2 F3
  go_cut [45] from 32 to 45 (fun v W' => v = .bool (!(checkB key m bits l && checkB key m bits o)) ∧ ((Below w.heap.size w W' ∧ Row W' w.heap.size 45 [.slice ai m.i.length ci, .slice am m.m.length cm, .slice ao m.o.length co, .slice al m.l.length cl, .slice ar m.r.length cr]) ∧ (MxS W' W'.heap.size ⟨ai, ci, am, cm, ao, co, al, cl, ar, cr⟩ m ∧ SlG 36 Og.cells W' W'.heap.size (.slice A1 l.length c1) l ∧ SlG 36 Og.cells W' W'.heap.size (.slice A2 o.length c2) o) ∧ SlI W' W'.heap.size (.slice A0 bits.length c0) bits))
  case first =>
    obtain ⟨e0, e1, e2, e3, e4⟩ := st5c h0.1.2
    cases g1 : checkB key m bits l with
    | false =>
      rw [g1] at CKb
      go_wp2_with (go_at_call 22; (with_reducible refine (CKb.out _ h0.1.1 h0.2.1.1 h0.2.2 h0.2.1.2.1).mono ?_); rintro e w5 ⟨rfl, hb⟩; replace h0 := k0 hb h0; clear hb; obtain ⟨e0, e1, e2, e3, e4⟩ := st5c h0.1.2)
      go_meet
      exact ⟨by rw [g1]; rfl, h0⟩
    | true =>
      rw [g1] at CKb
      cases g2 : checkB key m bits o
      all_goals
        rw [g2] at COb
        go_wp2_with (first
          | (go_at_call 22; (with_reducible refine (CKb.out _ h0.1.1 h0.2.1.1 h0.2.2 h0.2.1.2.1).mono ?_); rintro e w5 ⟨rfl, hb⟩; replace h0 := k0 hb h0; clear hb; obtain ⟨e0, e1, e2, e3, e4⟩ := st5c h0.1.2)
          | (go_at_call 22; (with_reducible refine (COb.out _ h0.1.1 h0.2.1.1 h0.2.2 h0.2.1.2.2).mono ?_); rintro e w6 ⟨rfl, hb⟩; replace h0 := k0 hb h0; clear hb; obtain ⟨e0, e1, e2, e3, e4⟩ := st5c h0.1.2))
        go_meet
        exact ⟨by rw [g1, g2]; rfl, h0⟩
  case rest =>
    clear h0
    obtain ⟨rfl, h0⟩ := hcut
    cases hcc : (checkB key m bits l && checkB key m bits o) with
    | false =>
      go_wp2_with fail
      go_ret
      exact ⟨rfl, h0.1.1⟩
    | true =>
      rw [Bool.and_eq_true] at hcc
      have hk1 := checkB_iff.1 hcc.1
      have hk2 := checkB_iff.1 hcc.2
      have hlg := longMx_two hk1 hk2
      rw [hlg] at LG
      have HCE := Lib.hid (fun j (hj : j < bits.length) => com_eq hk1 hk2 hj)
      have HBT := Lib.hid (fun j (hj : j < bits.length) => bit_at hk1.bit hj)
      have hl1 : l.length = bits.length := by rw [hk1.lb, hk1.lg]
      have hl2 : o.length = bits.length := by rw [hk1.lb, hk2.lg]
      have HN := Lib.hid (And.intro hl1 hl2)
      clear hlg hcc CKb COb hk1 hk2 hl1 hl2
      obtain ⟨e0, e1, e2, e3, e4⟩ := st5c h0.1.2
      go_upto_region 9 with (go_at_call 24; (with_reducible refine (LG.out _ _ _ _ _ _ _).mono ?_); rintro e w7 ⟨rfl, hb⟩; replace h0 := k0 hb h0; clear hb)
      clear e0 e1 e2 e3 e4 LG
      obtain ⟨W7, rfl⟩ : ∃ W : World, W = w7 := ⟨_, rfl⟩
      have hb7w := h0.1.1
      have HB := Lib.hid h0.2.2
      have HL := Lib.hid h0.2.1.2.1
      have HO := Lib.hid h0.2.1.2.2
      clear h0 k0
      go_wp2_with fail
      go_loopg [54] bits.length (fun g i wr => ∃ k : Nat, i = .int .i64 k ∧ k + g = bits.length ∧ Below W7.heap.size W7 wr)
      case atStart => exact ⟨0, rfl, by omega, Below.refl _ _⟩
      case round =>
        obtain ⟨k, rfl, hk, hBr⟩ := hrel
        by_cases hlt : k < bits.length
        · obtain ⟨b0, o0, a0, hb0, d0⟩ := sl_at (HB.out.below hBr) hlt
          obtain ⟨b1, o1, a1, hb1, d1⟩ := sl_at (HL.out.below hBr) (j := k) (by have := HN.out; omega)
          obtain ⟨b2, o2, a2, hb2, d2⟩ := sl_at (HO.out.below hBr) (j := k) (by have := HN.out; omega)
          subst a0 a1 a2
          have f0 := d0 0 (by omega)
          simp only [encI, List.getD_cons_zero, Nat.add_zero, Nat.mul_one] at f0
          have hp := HLO.out k (by have := HN.out; omega)
          have hq := HOO.out k (by have := HN.out; omega)
          have hbt := HBT.out k hlt
          have hce := HCE.out k hlt
          have rg1 : wr.rangeAt b1 (o1 + k * 36) (l.getD k default).cells := range_sl d1 (og_len hp.2)
          have rg2 : wr.rangeAt b2 (o2 + k * 36) (o.getD k default).cells := range_sl d2 (og_len hq.2)
          generalize bits.getD k default = bt at *
          generalize l.getD k default = p at *
          generalize o.getD k default = q at *
          have s1 : (0 : Int) ≤ k := by omega
          have s2 : (k : Int) < bits.length := by omega
          have s3 : (k : Int) < l.length := by have := HN.out; omega
          have s4 : (k : Int) < o.length := by have := HN.out; omega
          have hb1r : b1 < wr.heap.size := by have := hBr.size; omega
          have hb2r : b2 < wr.heap.size := by have := hBr.size; omega
          have bq := fun w => runO p q hp.2 hq.2 w
          have hpc : p.cells.length = 36 := og_len hp.2
          have hqc : q.cells.length = 36 := og_len hq.2
          have T1 := Lib.hid (fun W => text_any p hp W)
          have T2 := Lib.hid (fun W => text_any q hq W)
          have HBTT := Lib.hid hbt
          have HCEE := Lib.hid hce
          have HP := Lib.hid hp
          have HQ := Lib.hid hq
          clear d0 d1 d2 hbt hce hp hq
          have HF0 := Lib.hid f0
          go_upto_region 12 with fail
          clear f0
          go_cut [67] from 59 to 67 (fun v W' => v = .bool (eqOg p q) ∧ Below wr.heap.size wr W')
          case first =>
            have hS : ∀ w', Below wr.heap.size wr w' → w'.rangeAt b1 (o1 + k * 36) p.cells ∧ w'.rangeAt b2 (o2 + k * 36) q.cells := fun w' hb' => ⟨range_below rg1 hb' hb1r, range_below rg2 hb' hb2r⟩
            refine wp_region_tree 8 (.take 0 (.take 1 (.take 2 (.take 3 (.take 4 (.take 5 (.take 6 (.take 7 .done))))))))
              (fun W' => Below wr.heap.size wr W') (by kernel_rfl) (by kernel_rfl) (fun _ _ d _ _ h => by cases d <;> exact h) (Below.refl _ _).drew ?_
            iterate 3
              refine wpTree_take (v := ?_) rfl (by kernel_rfl) (fun w hSw => ?_) ?_
              rotate_left 1
              · go_simp
                with_reducible rfl
              simp only [Act.put, List.getElem_toArray, List.getElem_cons_succ, List.getElem_cons_zero, List.setIfInBounds_toArray, List.set_cons_zero, List.set_cons_succ]
            refine wpTree_take (v := .agg p.cells.toArray) rfl (by kernel_rfl) (fun w hSw => exec_load (ty := 60) (x := .tmp 61) (p := .pointer (some ⟨b1, o1 + k * 36, none⟩)) (by kernel_rfl) (by kernel_rfl) (run_loadAt_mid w b1 (o1 + k * 36) 60 p.cells _ (hS _ hSw).1 Tryd.underlying60 rfl (sizeOg HP.out.2))) ?_
            simp only [Act.put, List.getElem_toArray, List.getElem_cons_succ, List.getElem_cons_zero, List.setIfInBounds_toArray, List.set_cons_zero, List.set_cons_succ]
            iterate 3
              refine wpTree_take (v := ?_) rfl (by kernel_rfl) (fun w hSw => ?_) ?_
              rotate_left 1
              · go_simp
                with_reducible rfl
              simp only [Act.put, List.getElem_toArray, List.getElem_cons_succ, List.getElem_cons_zero, List.setIfInBounds_toArray, List.set_cons_zero, List.set_cons_succ]
            refine wpTree_take (v := .agg q.cells.toArray) rfl (by kernel_rfl) (fun w hSw => exec_load (ty := 60) (x := .tmp 65) (p := .pointer (some ⟨b2, o2 + k * 36, none⟩)) (by kernel_rfl) (by kernel_rfl) (run_loadAt_mid w b2 (o2 + k * 36) 60 q.cells _ (hS _ hSw).2 Tryd.underlying60 rfl (sizeOg HQ.out.2))) ?_
            simp only [Act.put, List.getElem_toArray, List.getElem_cons_succ, List.getElem_cons_zero, List.setIfInBounds_toArray, List.set_cons_zero, List.set_cons_succ]
            refine wpTree_done ?_
            simp only [List.drop_succ_cons, List.drop_zero]
            go_wp2_with fail
            go_meet
            exact ⟨rfl, (Below.refl _ _).drew⟩
          case rest =>
            obtain ⟨rfl, hb5⟩ := hcut
            clear bq
            have hBc : Below W7.heap.size W7 wc := hBr.trans (hb5.mono hBr.size)
            cases heq : eqOg p q with
            | true =>
              go_wp2_with fail
              go_roundg (gk - 1)
              case measure => omega
              case rel => exact ⟨k + 1, by first | rfl | go_num, by omega, hBc⟩
            | false =>
              have hne : encT (vtO p) ≠ encT (vtO q) := fun e => by
                have := eqOg_iff.2 (enc_inj e)
                rw [heq] at this; cases this
              have HNE := Lib.hid (salt_ne hne)
              have hpos : ∀ z : Og, 0 < (encT (vtO z)).length := fun z => by simp [encT]
              have hlen : ∀ z : Og, z.ok → (encT (vtO z)).length ≤ 1099511627000 := fun z hz => by
                have := flatT_length (okT_vtO hz) (vtO z).length (Nat.le_refl _)
                rw [List.take_length] at this
                have h5 : (vtO z).length = 5 := rfl
                unfold encT
                rw [List.length_append, List.length_cons, h5, numeral_small (by omega), List.length_singleton]
                rw [h5] at this
                omega
              have hTc : TabS wc := HT.out.below (hb7w.trans (hBc.mono hb7w.size))
              have rgc1 := range_below rg1 hb5 hb1r
              have rgc2 := range_below rg2 hb5 hb2r
              have hb1c : b1 < wc.heap.size := Nat.lt_of_lt_of_le hb1r hb5.size
              have hb2c : b2 < wc.heap.size := Nat.lt_of_lt_of_le hb2r hb5.size
              have hcomp : comN (tagOf bt) p = tagged (sb (tagOf bt)) (encT (vtO p)) := rfl
              have hcomq : comN (tagOf bt) q = tagged (sb (tagOf bt)) (encT (vtO q)) := rfl
              have hD32 : (comN (tagOf bt) p).length = 32 := comN_length _ _
              have TG := Lib.hid (fun (z : Og) (hz : z.ok) (v : Value) (W : World) (hW : Below wc.heap.size wc W) (h : SlB W W.heap.size v (encT (vtO z))) (hc : capB v) => tagged_any (tagOf bt) (encT (vtO z)) v W h hc (hlen z hz) (by unfold tagOf; split <;> decide) (hTc.below hW).1 (hTc.below hW).2)
              have TP := Lib.hid (fun v W hW h hc => TG.out p HP.out v W hW h hc)
              have TQ := Lib.hid (fun v W hW h hc => TG.out q HQ.out v W hW h hc)
              rw [← hcomp] at TP
              rw [← hcomq, ← HCEE.out] at TQ
              have HPP := Lib.hid (hpos p)
              have HPQ := Lib.hid (hpos q)
              have HLP := Lib.hid (hlen p HP.out)
              have HLQ := Lib.hid (hlen q HQ.out)
              obtain ⟨D, hD⟩ : ∃ D, comN (tagOf bt) p = D := ⟨_, rfl⟩
              rw [hD] at TP TQ hD32
              obtain ⟨EP, hEP⟩ : ∃ EP, encT (vtO p) = EP := ⟨_, rfl⟩
              obtain ⟨EQ, hEQ⟩ : ∃ EQ, encT (vtO q) = EQ := ⟨_, rfl⟩
              rw [hEP] at TP T1 HNE HPP HLP
              rw [hEQ] at TQ T2 HNE HPQ HLQ
              have bq2 : ∀ w, (Op.equalIn 10000 58 (.agg (D.map bv).toArray) (.agg (D.map bv).toArray)).run Tryd.prog w = .ok true w := fun w => by
                have := runD 9998 D D hD32 hD32 w
                rwa [decide_eq_true rfl] at this
              clear hcomp hcomq hpos hlen hne heq TG hTc hD hEP hEQ rg1 rg2 HCEE
              have htag : tagOf bt = if bt = 0 then tagL else tagR := rfl
              have hb01 := HBTT.out
              rcases hb01 with rfl | rfl
              all_goals
                first
                  | rw [if_pos rfl] at htag
                  | rw [if_neg (by decide)] at htag
                rw [htag] at TP TQ
                first
                  | unfold tagL at TP TQ
                  | unfold tagR at TP TQ
                have tg0 := tag0
                have tg1 := tag1
                go_upto_region 14 with fail
                clear tg0 tg1
                go_cut [14, 15] from 72 to 81 (fun a b W' => ∃ va vb, a = va ∧ b = vb ∧ Below wc.heap.size wc W' ∧ (SlB W' W'.heap.size va EP ∧ capB va) ∧ SlB W' W'.heap.size vb EQ ∧ capB vb)
                case first =>
                  refine wp_region_tree 11 (.take 0 (.take 1 (.take 2 (.take 3 (.take 5 (.take 6 (.take 7 (.take 8 (.one 4 (.one 9 (.one 10 .done)))))))))))
                    (fun W' => Below wc.heap.size wc W') (by kernel_rfl) (by kernel_rfl) (fun _ _ d _ _ h => by cases d <;> exact h) (Below.refl _ _).drew ?_
                  have hb : Below wc.heap.size wc wc.drew := (Below.refl _ _).drew
                  generalize wc.drew = V1 at hb ⊢

                  iterate 3
                    refine wpTree_take (v := ?_) rfl (by kernel_rfl) (fun w hSw => ?_) ?_
                    rotate_left 1
                    · go_simp
                      with_reducible rfl
                    simp only [Act.put, List.getElem_toArray, List.getElem_cons_succ, List.getElem_cons_zero, List.setIfInBounds_toArray, List.set_cons_zero, List.set_cons_succ]
                  refine wpTree_take (v := .agg p.cells.toArray) rfl (by kernel_rfl) (fun w hSw => exec_load (ty := 60) (x := .tmp 74) (p := .pointer (some ⟨b1, o1 + k * 36, none⟩)) (by kernel_rfl) (by kernel_rfl) (run_loadAt_mid w b1 (o1 + k * 36) 60 p.cells _ (range_below rgc1 hSw hb1c) Tryd.underlying60 rfl (sizeOg HP.out.2))) ?_
                  simp only [Act.put, List.getElem_toArray, List.getElem_cons_succ, List.getElem_cons_zero, List.setIfInBounds_toArray, List.set_cons_zero, List.set_cons_succ]
                  iterate 3
                    refine wpTree_take (v := ?_) rfl (by kernel_rfl) (fun w hSw => ?_) ?_
                    rotate_left 1
                    · go_simp
                      with_reducible rfl
                    simp only [Act.put, List.getElem_toArray, List.getElem_cons_succ, List.getElem_cons_zero, List.setIfInBounds_toArray, List.set_cons_zero, List.set_cons_succ]
                  refine wpTree_take (v := .agg q.cells.toArray) rfl (by kernel_rfl) (fun w hSw => exec_load (ty := 60) (x := .tmp 79) (p := .pointer (some ⟨b2, o2 + k * 36, none⟩)) (by kernel_rfl) (by kernel_rfl) (run_loadAt_mid w b2 (o2 + k * 36) 60 q.cells _ (range_below rgc2 hSw hb2c) Tryd.underlying60 rfl (sizeOg HQ.out.2))) ?_
                  simp only [Act.put, List.getElem_toArray, List.getElem_cons_succ, List.getElem_cons_zero, List.setIfInBounds_toArray, List.set_cons_zero, List.set_cons_succ]
                  refine wpTree_one rfl (fun K hK => ⟨by kernel_rfl, ?_⟩)
                  go_simp
                  go_at_call 28
                  refine (T1.out _).mono ?_
                  rintro e V2 ⟨va, rfl, own0, hbn⟩
                  replace hb := hb.trans (hbn.mono hb.size)
                  refine hK _ _ hb ?_
                  clear hK K hbn
                  try simp only [Act.put, List.getElem_toArray, List.getElem_cons_succ, List.getElem_cons_zero, List.setIfInBounds_toArray, List.set_cons_zero, List.set_cons_succ]
                  refine wpTree_one rfl (fun K hK => ⟨by kernel_rfl, ?_⟩)
                  go_simp
                  go_at_call 28
                  refine (T2.out _).mono ?_
                  rintro e V3 ⟨vb, rfl, own1, hbn⟩
                  replace hb := hb.trans (hbn.mono hb.size)
                  replace own0 := World.ownsRow.kept own0 (grown_below' hbn none) (Classical.em _)
                  refine hK _ _ hb ?_
                  clear hK K hbn
                  try simp only [Act.put, List.getElem_toArray, List.getElem_cons_succ, List.getElem_cons_zero, List.setIfInBounds_toArray, List.set_cons_zero, List.set_cons_succ]
                  refine wpTree_one rfl (fun K hK => ⟨by kernel_rfl, ?_⟩)
                  go_simp
                  refine hK _ _ hb ?_
                  clear hK K
                  try simp only [Act.put, List.getElem_toArray, List.getElem_cons_succ, List.getElem_cons_zero, List.setIfInBounds_toArray, List.set_cons_zero, List.set_cons_succ]
                  refine wpTree_done ?_
                  simp only [List.drop_succ_cons, List.drop_zero]
                  have FIN := Lib.hid (And.intro hb (And.intro (own_slB own0 rfl (by have := HLP.out; omega)) (own_slB own1 rfl (by have := HLQ.out; omega))))
                  clear own0 own1 hb
                  go_wp2_with fail
                  go_meet
                  exact ⟨_, _, rfl, rfl, FIN.out.1, FIN.out.2.1, FIN.out.2.2⟩
                case rest =>
                  obtain ⟨va, vb, rfl, rfl, hb8, ⟨sa, ca⟩, sb_, cb⟩ := hcut
                  have SA := Lib.hid sa
                  have SB := Lib.hid sb_
                  have CAA := Lib.hid ca
                  have CBB := Lib.hid cb
                  obtain ⟨_, A5, c5, rfl, hE5⟩ := sa
                  obtain ⟨g5, o5, rfl, _, _⟩ := hE5 HPP.out
                  obtain ⟨_, A6, c6, rfl, hE6⟩ := sb_
                  obtain ⟨g6, o6, rfl, _, _⟩ := hE6 HPQ.out
                  have v1 := conv_bytes SA.out HPP.out
                  have v2 := conv_bytes SB.out HPQ.out
                  have v3 := HNE.out
                  clear HNE
                  generalize saltS EP = X1 at *
                  generalize saltS EQ = X2 at *
                  clear ca cb hE5 hE6
                  obtain ⟨Wd, rfl⟩ : ∃ Wd : World, Wd = wc := ⟨_, rfl⟩
                  go_wp2_with (first
                    | (go_at_call 29; (with_reducible refine (TP.out _ _ hb8 SA.out CAA.out).mono ?_); rintro e w9 ⟨rfl, hb9⟩)
                    | (go_at_call 29; (with_reducible refine (TQ.out _ _ (hb8.trans (hb9.mono hb8.size)) ((SB.out.below hb9).mono hb9.size) CBB.out).mono ?_); rintro e w10 ⟨rfl, hb10⟩))
                  have hB10 := hBc.trans ((hb8.trans ((hb9.trans (hb10.mono hb9.size)).mono hb8.size)).mono hBc.size)
                  go_roundg (gk - 1)
                  case measure => omega
                  case rel => exact ⟨k + 1, by first | rfl | go_num, by omega, hB10⟩
        · go_wp2_with fail
          go_ret
          exact ⟨rfl, hb7w.trans (hBr.mono hb7w.size)⟩
end Go.Proofs.YthboebhghaabnaaDoor
