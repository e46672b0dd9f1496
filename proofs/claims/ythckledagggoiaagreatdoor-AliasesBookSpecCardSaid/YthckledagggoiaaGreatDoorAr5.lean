import Derived.Test.YthckledagggoiaaGreatDoorAr4
set_option linter.unusedSimpArgs false
set_option linter.unusedVariables false
namespace Go.Proofs.YthckledagggoiaaGreatDoor
open Go.RowKit Fk
/-! The reference's registry: Standing. -/
theorem own_empty8 (W : World) (e : TypeId) : (W.alloc (.cells #[] e)).ownsRow W.heap.size e 8 (.slice (some ⟨W.heap.size, 0, none⟩) 0 0) 0 [] :=
  ⟨rfl, .inr ⟨W.heap.size, 0, #[], rfl, Nat.le_refl _, Row.new W e [], Nat.le_refl _, by unfold maxLen; omega, rfl, rfl⟩⟩
def stB (l : List En) (day time : Int) (x : En) (k : Nat) : Bool := cntB day time x && !((l.take k).any fun y => cntB day time y && repB y x)
theorem stB_succ {l : List En} {day time : Int} {x : En} {k : Nat} (h : k < l.length) : stB l day time x (k + 1) = (stB l day time x k && !(cntB day time (l.getD k default) && repB (l.getD k default) x)) := by
  unfold stB
  rw [takeD h, List.any_append, List.any_cons, List.any_nil, Bool.or_false, Bool.not_or, Bool.and_assoc]
theorem stB_all (l : List En) (day time : Int) (x : En) : stB l day time x l.length = (cntB day time x && !(l.any fun y => cntB day time y && repB y x)) := by
  unfold stB; rw [List.take_length]
def rstTo (l : List En) (day time : Int) (k : Nat) : List En := (l.take k).filter fun x => stB l day time x l.length
theorem rstTo_succ {l : List En} {day time : Int} {k : Nat} (h : k < l.length) : rstTo l day time (k + 1) = if stB l day time (l.getD k default) l.length then rstTo l day time k ++ [l.getD k default] else rstTo l day time k := by
  unfold rstTo
  rw [takeD h, List.filter_append, List.filter_cons, List.filter_nil]
  cases stB l day time (l.getD k default) l.length <;> simp
theorem rstTo_all (l : List En) (day time : Int) : rstTo l day time l.length = rstandL l day time := by
  unfold rstTo rstandL
  rw [List.take_length]
  exact List.filter_congr fun x _ => stB_all l day time x
theorem rstTo_len (l : List En) (day time : Int) (k : Nat) : (rstTo l day time k).length ≤ l.length := by
  unfold rstTo
  exact Nat.le_trans (List.length_filter_le _ _) (by rw [List.length_take]; omega)
theorem clock_cases (day time : Int) : (clockB day time = true ∧ 0 ≤ day ∧ day < 2097152 ∧ 0 ≤ time ∧ time < 2097152) ∨ (clockB day time = false ∧ (day < 0 ∨ 2097152 ≤ day ∨ time < 0 ∨ 2097152 ≤ time)) := by
  unfold clockB
  by_cases h1 : 0 ≤ day
  · by_cases h2 : 0 ≤ time
    · by_cases h3 : day < 2097152
      · by_cases h4 : time < 2097152
        · exact .inl ⟨by rw [decide_eq_true h1, decide_eq_true h2, decide_eq_true h3, decide_eq_true h4]; rfl, h1, h3, h2, h4⟩
        · exact .inr ⟨by rw [decide_eq_false h4]; simp, by omega⟩
      · exact .inr ⟨by rw [decide_eq_false h3]; simp, by omega⟩
    · exact .inr ⟨by rw [decide_eq_false h2]; simp, by omega⟩
  · exact .inr ⟨by rw [decide_eq_false h1]; rfl, by omega⟩
set_option maxRecDepth 100000 in
set_option maxHeartbeats 4000000 in
theorem r33stand_bad (l : List En) (v : Value) (day time : Int) (w : World) (h : SlE w w.heap.size v l) (hs : stE l day time ≠ 0) :
    Calls Tryz.prog 79 #[v, .int .i64 day, .int .i64 time] w fun e w' => e = .returned (.tuple #[.slice none 0 0, .int .i64 (stE l day time)]) ∧ Below w.heap.size w w' := by
  have hck := r33check_any l v w h
  have hE : stE l day time = if chkE l = 0 then (if clockB day time then 0 else 1) else chkE l := rfl
  by_cases hc : chkE l = 0
  · rw [if_pos hc] at hE
    rw [hc] at hck
    rcases clock_cases day time with ⟨h1, _⟩ | ⟨h1, h2⟩
    · rw [h1] at hE; exact absurd hE hs
    · rw [h1] at hE
      rw [hE]
      have HCK := Lib.hid hck
      clear hck hc hE hs h1 h
      by_cases a1 : day < 0
      · have f1 : decide (day < 0) = true := decide_eq_true a1
        clear h2 a1
        go_enter Tryz.func79, Tryz.ntmps79
        go_wp2_with (go_at_call 16; (with_reducible refine HCK.out.mono ?_); rintro e w1 ⟨rfl, hb1⟩)
        go_ret2
        exact ⟨rfl, hb1⟩
      have f1 : decide (day < 0) = false := decide_eq_false a1
      by_cases a2 : 2097152 ≤ day
      · have f2 : decide (2097152 ≤ day) = true := decide_eq_true a2
        clear h2 a1 a2
        go_enter Tryz.func79, Tryz.ntmps79
        go_wp2_with (go_at_call 16; (with_reducible refine HCK.out.mono ?_); rintro e w1 ⟨rfl, hb1⟩)
        go_ret2
        exact ⟨rfl, hb1⟩
      have f2 : decide (2097152 ≤ day) = false := decide_eq_false a2
      by_cases a3 : time < 0
      · have f3 : decide (time < 0) = true := decide_eq_true a3
        clear h2 a1 a2 a3
        go_enter Tryz.func79, Tryz.ntmps79
        go_wp2_with (go_at_call 16; (with_reducible refine HCK.out.mono ?_); rintro e w1 ⟨rfl, hb1⟩)
        go_ret2
        exact ⟨rfl, hb1⟩
      have f3 : decide (time < 0) = false := decide_eq_false a3
      have f4 : decide (2097152 ≤ time) = true := decide_eq_true (by omega)
      clear h2 a1 a2 a3
      go_enter Tryz.func79, Tryz.ntmps79
      go_wp2_with (go_at_call 16; (with_reducible refine HCK.out.mono ?_); rintro e w1 ⟨rfl, hb1⟩)
      go_ret2
      exact ⟨rfl, hb1⟩
  · rw [if_neg hc] at hE
    obtain ⟨E, hEE⟩ : ∃ E, chkE l = E := ⟨_, rfl⟩
    rw [hE, hEE]
    rw [hEE] at hck hc
    have f1 : (E != 0) = true := bne_iff_ne.2 hc
    have HCK := Lib.hid hck
    clear hck hc hE hEE hs h
    go_enter Tryz.func79, Tryz.ntmps79
    go_wp2_with (go_at_call 16; (with_reducible refine HCK.out.mono ?_); rintro e w1 ⟨rfl, hb1⟩)
    go_ret2
    exact ⟨rfl, hb1⟩
set_option maxRecDepth 100000 in
set_option maxHeartbeats 8000000 in
theorem r33stand_good (l : List En) (v : Value) (day time : Int) (w : World) (h : SlE w w.heap.size v l) (hs : stE l day time = 0) :
    Calls Tryz.prog 79 #[v, .int .i64 day, .int .i64 time] w fun e w' => (∃ x, e = .returned (.tuple #[x, .int .i64 0]) ∧ SlE w' w'.heap.size x (standL l day time)) ∧ Below w.heap.size w w' := by
  obtain ⟨i0, hi, hz0, hz1, hz2⟩ := info_parts infoE
  have hck := r33check_any l v w h
  have hl10 := stE_len hs
  have hE : stE l day time = if chkE l = 0 then (if clockB day time then 0 else 1) else chkE l := rfl
  have hc : chkE l = 0 := by
    by_cases hc : chkE l = 0
    · exact hc
    · rw [if_neg hc] at hE; exact absurd (hE.symm.trans hs) hc
  rw [hc] at hck
  rw [if_pos hc] at hE
  have hb4 : 0 ≤ day ∧ day < 2097152 ∧ 0 ≤ time ∧ time < 2097152 := by
    rcases clock_cases day time with ⟨_, h2⟩ | ⟨h1, _⟩
    · exact h2
    · rw [h1, hs] at hE; cases hE
  have f1 : decide (day < 0) = false := decide_eq_false (by omega)
  have f2 : decide (2097152 ≤ day) = false := decide_eq_false (by omega)
  have f3 : decide (time < 0) = false := decide_eq_false (by omega)
  have f4 : decide (2097152 ≤ time) = false := decide_eq_false (by omega)
  have hR := (rstTo_all l day time).trans (rstand_eq hc day time)
  have HRR := Lib.hid hR
  have HS := Lib.hid h
  have HCK := Lib.hid hck
  have hcn := fun (x : En) => r33counts_any x day time
  have HCN := Lib.hid hcn
  obtain ⟨_, A, c, rfl, _⟩ := h
  clear hck hc hE hs hR hcn hb4
  go_enter Tryz.func79, Tryz.ntmps79
  go_wp2_with (go_at_call 16; (with_reducible refine HCK.out.mono ?_); rintro e w1 ⟨rfl, hb1⟩)
  have hsz1 := hb1.size
  have hB1 := hb1.alloc hb1.size (.cells #[] 49)
  have hO : (w1.alloc (.cells #[] 49)).ownsRow w.heap.size 49 8 (.slice (some ⟨w1.heap.size, 0, none⟩) 0 0) 0 [] := World.ownsRow_made (base := w.heap.size) w1 #[] 0 hsz1 (by unfold maxLen; omega) (by simp)
  clear f1 f2 f3 f4 hb1
  go_loopg [9, 10] l.length (fun g xv iv wr => ∃ i : Nat, iv = .int .i64 i ∧ i + g = l.length ∧ Below w.heap.size w wr ∧ wr.ownsRow w.heap.size 49 8 xv (rstTo l day time i).length ((rstTo l day time i).flatMap En.cells))
  case atStart => exact ⟨0, rfl, by omega, hB1, hO⟩
  case round =>
    obtain ⟨i, rfl, hig, hBr, hown⟩ := hrel
    clear hB1 hO
    by_cases hlt : i < l.length
    · obtain ⟨b, off, c', hv, hb, hE⟩ := ent_at (HS.out.below hBr) hlt
      cases hv
      have hEE := Lib.hid hE
      have ex := hE i hlt
      have hsuc := rstTo_succ (day := day) (time := time) hlt
      obtain ⟨x, hx⟩ : ∃ x, l.getD i default = x := ⟨_, rfl⟩
      rw [hx] at ex hsuc
      have hcx := HCN.out x
      have HX := Lib.hid hx
      have HSU := Lib.hid hsuc
      have hbr : b < wr.heap.size := by have := hBr.size; omega
      have EX := Lib.hid ex
      have s1 : (0 : Int) ≤ i := by omega
      have s2 : (i : Int) < l.length := by omega
      have HO := Lib.hid hown
      have HLN := Lib.hid (rstTo_len l day time i)
      obtain ⟨bx, hbx⟩ : ∃ bx, cntB day time x = bx := ⟨_, rfl⟩
      have hst0 : stB l day time x 0 = bx := by unfold stB; rw [hbx]; simp
      rw [hbx] at hcx
      unfold En.val at hcx
      have HCX := Lib.hid hcx
      have HG := Lib.hid hig
      have HST0 := Lib.hid hst0
      obtain ⟨d0, d1, d2, d3, d4, d5, d6, d7⟩ := ex
      clear hx hsuc hcx hbx hst0 hown hig hE
      go_wp2_with (go_at_call 130; (with_reducible refine (HCX.out _).mono ?_); rintro e w2 ⟨rfl, hb2⟩)
      obtain ⟨G0, rfl⟩ : ∃ G0 : Nat, G0 = gk := ⟨_, rfl⟩
      obtain ⟨xo, rfl⟩ : ∃ xo : Value, xo = u9 := ⟨_, rfl⟩
      obtain ⟨wo, rfl⟩ : ∃ wo : World, wo = wr := ⟨_, rfl⟩
      clear d0 d1 d2 d3 d4 d5 d6 d7 s1 s2
      have hO2 := HO.out.kept (grown_below' hb2 none) (by by_cases h : xo.ownBlock = none; exact .inl h; exact .inr h)
      have hB2 := hBr.trans (hb2.mono hBr.size)
      go_loopg [11, 12] l.length (fun g sv kv wi => ∃ k : Nat, kv = .int .i64 k ∧ k + g = l.length ∧ sv = .bool (stB l day time x k) ∧ Below w.heap.size w wi ∧ Below wo.heap.size wo wi)
      case atStart => exact ⟨0, rfl, by omega, by rw [HST0.out], hB2, hb2⟩
      case round =>
        clear hO2 hB2 hb2
        obtain ⟨k, rfl, hkg, rfl, hBi, hWi⟩ := hrel
        by_cases hlk : k < l.length
        · have hbi : b < wr.heap.size := by have := hWi.size; omega
          have ey := (hEE.out k hlk).below hWi hbr
          have hex := EX.out.below hWi hbr
          have hss := stB_succ (day := day) (time := time) (x := x) hlk
          obtain ⟨y, hy⟩ : ∃ y, l.getD k default = y := ⟨_, rfl⟩
          rw [hy] at ey hss
          have hcy := HCN.out y
          have hre := r33replaces_any y x
          obtain ⟨cy, hcyb⟩ : ∃ b, cntB day time y = b := ⟨_, rfl⟩
          obtain ⟨ry, hryb⟩ : ∃ b, repB y x = b := ⟨_, rfl⟩
          obtain ⟨sb, hsb⟩ : ∃ b, stB l day time x k = b := ⟨_, rfl⟩
          rw [hcyb] at hcy hss
          rw [hryb] at hre hss
          rw [hsb] at hss ⊢
          unfold En.val at hcy hre
          have HCY := Lib.hid hcy
          have HRE := Lib.hid hre
          have HSS := Lib.hid hss
          have EY := Lib.hid ey
          have EX2 := Lib.hid hex
          have s1 : (0 : Int) ≤ k := by omega
          have s2 : (k : Int) < l.length := by omega
          have s3 : (0 : Int) ≤ i := by omega
          have s4 : (i : Int) < l.length := by omega
          clear hy hcy hre hss ey hex hcyb hryb hsb
          cases cy with
          | false =>
            go_wp2
            refine wp_region_det 17 (fun w0 => Below wr.heap.size wr w0) (by kernel_rfl) (by kernel_rfl) (Below.refl _ _).drew ?_
            iterate 3
              refine wpDet_take (v := ?_) rfl (by kernel_rfl) (fun w0 hSw => ?_) ?_
              rotate_left 1
              · skip
                go_simp
                with_reducible rfl
              simp only [Act.put, List.getElem_toArray, List.getElem_cons_succ, List.getElem_cons_zero, List.setIfInBounds_toArray, List.set_cons_zero, List.set_cons_succ]
            refine wpDet_take (v := .agg #[.int .i64 y.no, .int .i64 y.kind, .int .i64 y.a, .int .i64 y.b, .int .i64 y.from_, .int .i64 y.until_, .int .i64 y.known, .int .i64 y.gone]) rfl (by kernel_rfl) (fun w0 hSw => ?_) ?_
            · obtain ⟨d0, d1, d2, d3, d4, d5, d6, d7⟩ := EY.out.below hSw hbi
              go_simp
            simp only [Act.put, List.getElem_toArray, List.getElem_cons_succ, List.getElem_cons_zero, List.setIfInBounds_toArray, List.set_cons_zero, List.set_cons_succ]
            iterate 2
              refine wpDet_take (v := ?_) rfl (by kernel_rfl) (fun w0 hSw => ?_) ?_
              rotate_left 1
              · skip
                go_simp
                with_reducible rfl
              simp only [Act.put, List.getElem_toArray, List.getElem_cons_succ, List.getElem_cons_zero, List.setIfInBounds_toArray, List.set_cons_zero, List.set_cons_succ]
            refine wpDet_call (v := .bool false) rfl (by kernel_rfl) (fun w0 hSw K hK => ?_) ?_
            · go_simp
              go_at_call 130
              refine (HCY.out _).mono ?_
              rintro e w9 ⟨rfl, hb⟩
              exact hK _ (hSw.trans (hb.mono hSw.size))
            simp only [Act.put, List.getElem_toArray, List.getElem_cons_succ, List.getElem_cons_zero, List.setIfInBounds_toArray, List.set_cons_zero, List.set_cons_succ]
            iterate 1
              refine wpDet_take (v := ?_) rfl (by kernel_rfl) (fun w0 hSw => ?_) ?_
              rotate_left 1
              · skip
                go_simp
                with_reducible rfl
              simp only [Act.put, List.getElem_toArray, List.getElem_cons_succ, List.getElem_cons_zero, List.setIfInBounds_toArray, List.set_cons_zero, List.set_cons_succ]
            iterate 9
              refine wpDet_skip rfl (by kernel_rfl) ?_
              simp only [Act.put, List.getElem_toArray, List.getElem_cons_succ, List.getElem_cons_zero, List.setIfInBounds_toArray, List.set_cons_zero, List.set_cons_succ]
            refine wpDet_done (fun wd hd => ?_)
            have hBd := hBi.trans (hd.mono hBi.size)
            have hWd := hWi.trans (hd.mono hWi.size)
            clear s1 s2 s3 s4
            go_wp2
            go_roundg (gk - 1)
            case measure => omega
            case rel => exact ⟨k + 1, by first | rfl | go_num, by omega, by rw [HSS.out]; simp, hBd, hWd⟩
          | true =>
            cases ry with
            | false =>
              go_wp2
              refine wp_region_det 17 (fun w0 => Below wr.heap.size wr w0) (by kernel_rfl) (by kernel_rfl) (Below.refl _ _).drew ?_
              iterate 3
                refine wpDet_take (v := ?_) rfl (by kernel_rfl) (fun w0 hSw => ?_) ?_
                rotate_left 1
                · skip
                  go_simp
                  with_reducible rfl
                simp only [Act.put, List.getElem_toArray, List.getElem_cons_succ, List.getElem_cons_zero, List.setIfInBounds_toArray, List.set_cons_zero, List.set_cons_succ]
              refine wpDet_take (v := .agg #[.int .i64 y.no, .int .i64 y.kind, .int .i64 y.a, .int .i64 y.b, .int .i64 y.from_, .int .i64 y.until_, .int .i64 y.known, .int .i64 y.gone]) rfl (by kernel_rfl) (fun w0 hSw => ?_) ?_
              · obtain ⟨d0, d1, d2, d3, d4, d5, d6, d7⟩ := EY.out.below hSw hbi
                go_simp
              simp only [Act.put, List.getElem_toArray, List.getElem_cons_succ, List.getElem_cons_zero, List.setIfInBounds_toArray, List.set_cons_zero, List.set_cons_succ]
              iterate 2
                refine wpDet_take (v := ?_) rfl (by kernel_rfl) (fun w0 hSw => ?_) ?_
                rotate_left 1
                · skip
                  go_simp
                  with_reducible rfl
                simp only [Act.put, List.getElem_toArray, List.getElem_cons_succ, List.getElem_cons_zero, List.setIfInBounds_toArray, List.set_cons_zero, List.set_cons_succ]
              refine wpDet_call (v := .bool true) rfl (by kernel_rfl) (fun w0 hSw K hK => ?_) ?_
              · go_simp
                go_at_call 130
                refine (HCY.out _).mono ?_
                rintro e w9 ⟨rfl, hb⟩
                exact hK _ (hSw.trans (hb.mono hSw.size))
              simp only [Act.put, List.getElem_toArray, List.getElem_cons_succ, List.getElem_cons_zero, List.setIfInBounds_toArray, List.set_cons_zero, List.set_cons_succ]
              iterate 1
                refine wpDet_take (v := ?_) rfl (by kernel_rfl) (fun w0 hSw => ?_) ?_
                rotate_left 1
                · skip
                  go_simp
                  with_reducible rfl
                simp only [Act.put, List.getElem_toArray, List.getElem_cons_succ, List.getElem_cons_zero, List.setIfInBounds_toArray, List.set_cons_zero, List.set_cons_succ]
              iterate 3
                refine wpDet_take (v := ?_) rfl (by kernel_rfl) (fun w0 hSw => ?_) ?_
                rotate_left 1
                · skip
                  go_simp
                  with_reducible rfl
                simp only [Act.put, List.getElem_toArray, List.getElem_cons_succ, List.getElem_cons_zero, List.setIfInBounds_toArray, List.set_cons_zero, List.set_cons_succ]
              refine wpDet_take (v := .agg #[.int .i64 y.no, .int .i64 y.kind, .int .i64 y.a, .int .i64 y.b, .int .i64 y.from_, .int .i64 y.until_, .int .i64 y.known, .int .i64 y.gone]) rfl (by kernel_rfl) (fun w0 hSw => ?_) ?_
              · obtain ⟨d0, d1, d2, d3, d4, d5, d6, d7⟩ := EY.out.below hSw hbi
                go_simp
              simp only [Act.put, List.getElem_toArray, List.getElem_cons_succ, List.getElem_cons_zero, List.setIfInBounds_toArray, List.set_cons_zero, List.set_cons_succ]
              iterate 3
                refine wpDet_take (v := ?_) rfl (by kernel_rfl) (fun w0 hSw => ?_) ?_
                rotate_left 1
                · skip
                  go_simp
                  with_reducible rfl
                simp only [Act.put, List.getElem_toArray, List.getElem_cons_succ, List.getElem_cons_zero, List.setIfInBounds_toArray, List.set_cons_zero, List.set_cons_succ]
              refine wpDet_take (v := .agg #[.int .i64 x.no, .int .i64 x.kind, .int .i64 x.a, .int .i64 x.b, .int .i64 x.from_, .int .i64 x.until_, .int .i64 x.known, .int .i64 x.gone]) rfl (by kernel_rfl) (fun w0 hSw => ?_) ?_
              · obtain ⟨d0, d1, d2, d3, d4, d5, d6, d7⟩ := EX2.out.below hSw hbi
                go_simp
              simp only [Act.put, List.getElem_toArray, List.getElem_cons_succ, List.getElem_cons_zero, List.setIfInBounds_toArray, List.set_cons_zero, List.set_cons_succ]
              refine wpDet_call (v := .bool false) rfl (by kernel_rfl) (fun w0 hSw K hK => ?_) ?_
              · go_simp
                go_at_call 131
                refine (HRE.out _).mono ?_
                rintro e w9 ⟨rfl, hb⟩
                exact hK _ (hSw.trans (hb.mono hSw.size))
              simp only [Act.put, List.getElem_toArray, List.getElem_cons_succ, List.getElem_cons_zero, List.setIfInBounds_toArray, List.set_cons_zero, List.set_cons_succ]
              refine wpDet_done (fun wd hd => ?_)
              have hBd := hBi.trans (hd.mono hBi.size)
              have hWd := hWi.trans (hd.mono hWi.size)
              clear s1 s2 s3 s4
              go_wp2
              go_roundg (gk - 1)
              case measure => omega
              case rel => exact ⟨k + 1, by first | rfl | go_num, by omega, by rw [HSS.out]; simp, hBd, hWd⟩
            | true =>
              go_wp2
              refine wp_region_det 17 (fun w0 => Below wr.heap.size wr w0) (by kernel_rfl) (by kernel_rfl) (Below.refl _ _).drew ?_
              iterate 3
                refine wpDet_take (v := ?_) rfl (by kernel_rfl) (fun w0 hSw => ?_) ?_
                rotate_left 1
                · skip
                  go_simp
                  with_reducible rfl
                simp only [Act.put, List.getElem_toArray, List.getElem_cons_succ, List.getElem_cons_zero, List.setIfInBounds_toArray, List.set_cons_zero, List.set_cons_succ]
              refine wpDet_take (v := .agg #[.int .i64 y.no, .int .i64 y.kind, .int .i64 y.a, .int .i64 y.b, .int .i64 y.from_, .int .i64 y.until_, .int .i64 y.known, .int .i64 y.gone]) rfl (by kernel_rfl) (fun w0 hSw => ?_) ?_
              · obtain ⟨d0, d1, d2, d3, d4, d5, d6, d7⟩ := EY.out.below hSw hbi
                go_simp
              simp only [Act.put, List.getElem_toArray, List.getElem_cons_succ, List.getElem_cons_zero, List.setIfInBounds_toArray, List.set_cons_zero, List.set_cons_succ]
              iterate 2
                refine wpDet_take (v := ?_) rfl (by kernel_rfl) (fun w0 hSw => ?_) ?_
                rotate_left 1
                · skip
                  go_simp
                  with_reducible rfl
                simp only [Act.put, List.getElem_toArray, List.getElem_cons_succ, List.getElem_cons_zero, List.setIfInBounds_toArray, List.set_cons_zero, List.set_cons_succ]
              refine wpDet_call (v := .bool true) rfl (by kernel_rfl) (fun w0 hSw K hK => ?_) ?_
              · go_simp
                go_at_call 130
                refine (HCY.out _).mono ?_
                rintro e w9 ⟨rfl, hb⟩
                exact hK _ (hSw.trans (hb.mono hSw.size))
              simp only [Act.put, List.getElem_toArray, List.getElem_cons_succ, List.getElem_cons_zero, List.setIfInBounds_toArray, List.set_cons_zero, List.set_cons_succ]
              iterate 1
                refine wpDet_take (v := ?_) rfl (by kernel_rfl) (fun w0 hSw => ?_) ?_
                rotate_left 1
                · skip
                  go_simp
                  with_reducible rfl
                simp only [Act.put, List.getElem_toArray, List.getElem_cons_succ, List.getElem_cons_zero, List.setIfInBounds_toArray, List.set_cons_zero, List.set_cons_succ]
              iterate 3
                refine wpDet_take (v := ?_) rfl (by kernel_rfl) (fun w0 hSw => ?_) ?_
                rotate_left 1
                · skip
                  go_simp
                  with_reducible rfl
                simp only [Act.put, List.getElem_toArray, List.getElem_cons_succ, List.getElem_cons_zero, List.setIfInBounds_toArray, List.set_cons_zero, List.set_cons_succ]
              refine wpDet_take (v := .agg #[.int .i64 y.no, .int .i64 y.kind, .int .i64 y.a, .int .i64 y.b, .int .i64 y.from_, .int .i64 y.until_, .int .i64 y.known, .int .i64 y.gone]) rfl (by kernel_rfl) (fun w0 hSw => ?_) ?_
              · obtain ⟨d0, d1, d2, d3, d4, d5, d6, d7⟩ := EY.out.below hSw hbi
                go_simp
              simp only [Act.put, List.getElem_toArray, List.getElem_cons_succ, List.getElem_cons_zero, List.setIfInBounds_toArray, List.set_cons_zero, List.set_cons_succ]
              iterate 3
                refine wpDet_take (v := ?_) rfl (by kernel_rfl) (fun w0 hSw => ?_) ?_
                rotate_left 1
                · skip
                  go_simp
                  with_reducible rfl
                simp only [Act.put, List.getElem_toArray, List.getElem_cons_succ, List.getElem_cons_zero, List.setIfInBounds_toArray, List.set_cons_zero, List.set_cons_succ]
              refine wpDet_take (v := .agg #[.int .i64 x.no, .int .i64 x.kind, .int .i64 x.a, .int .i64 x.b, .int .i64 x.from_, .int .i64 x.until_, .int .i64 x.known, .int .i64 x.gone]) rfl (by kernel_rfl) (fun w0 hSw => ?_) ?_
              · obtain ⟨d0, d1, d2, d3, d4, d5, d6, d7⟩ := EX2.out.below hSw hbi
                go_simp
              simp only [Act.put, List.getElem_toArray, List.getElem_cons_succ, List.getElem_cons_zero, List.setIfInBounds_toArray, List.set_cons_zero, List.set_cons_succ]
              refine wpDet_call (v := .bool true) rfl (by kernel_rfl) (fun w0 hSw K hK => ?_) ?_
              · go_simp
                go_at_call 131
                refine (HRE.out _).mono ?_
                rintro e w9 ⟨rfl, hb⟩
                exact hK _ (hSw.trans (hb.mono hSw.size))
              simp only [Act.put, List.getElem_toArray, List.getElem_cons_succ, List.getElem_cons_zero, List.setIfInBounds_toArray, List.set_cons_zero, List.set_cons_succ]
              refine wpDet_done (fun wd hd => ?_)
              have hBd := hBi.trans (hd.mono hBi.size)
              have hWd := hWi.trans (hd.mono hWi.size)
              clear s1 s2 s3 s4
              go_wp2
              go_roundg (gk - 1)
              case measure => omega
              case rel => exact ⟨k + 1, by first | rfl | go_num, by omega, by rw [HSS.out]; simp, hBd, hWd⟩
        · obtain rfl : k = l.length := by omega
          have hsu := HSU.out
          obtain ⟨sb, hsb⟩ : ∃ b, stB l day time x l.length = b := ⟨_, rfl⟩
          rw [hsb] at hsu ⊢
          have hg := HG.out
          have hln := HLN.out
          have hOi := HO.out.kept (grown_below' hWi none) (by by_cases h : xo.ownBlock = none; exact .inl h; exact .inr h)
          clear hsb
          cases sb with
          | false =>
            rw [if_neg (by decide)] at hsu
            have HSU2 := Lib.hid hsu
            have HOI := Lib.hid hOi
            clear hsu hOi
            go_wp2
            go_roundg (G0 - 1)
            case measure => omega
            case rel => exact ⟨i + 1, by first | rfl | go_num, by omega, hBi, by rw [HSU2.out]; exact HOI.out⟩
          | true =>
            rw [if_pos rfl] at hsu
            have HSU2 := Lib.hid hsu
            have HOI := Lib.hid hOi
            obtain ⟨d0, d1, d2, d3, d4, d5, d6, d7⟩ := EX.out.below hWi hbr
            have s3 : (0 : Int) ≤ i := by omega
            have s4 : (i : Int) < l.length := by omega
            have hszi := hBi.size
            clear hsu hOi
            go_wp2_with (at_builtin; go_loud (refine wpList_append_own _ rfl _ _ 26 rfl w.heap.size 49 i0 zeroE.val 8 64 Tryz.underlying26 hi hz0 hz1 hz2 rfl (by decide) _ _ _ rfl (HOI.out.alloc _) ⟨wr.heap.size, 0, none⟩ 1 1 x.cells rfl rfl (cells_new wr 49 x.cells) (by simp [En.cells, Value.oneCell']) (by unfold maxLen; omega) (by omega) (by simp; omega) ?_; intro v' w3 hown' hgrow _))
            go_roundg (G0 - 1)
            case measure => omega
            case rel =>
              refine ⟨i + 1, by first | rfl | go_num, by omega, ?_, ?_⟩
              · have hBy := hBi.alloc hBi.size (.cells #[.int .i64 x.no, .int .i64 x.kind, .int .i64 x.a, .int .i64 x.b, .int .i64 x.from_, .int .i64 x.until_, .int .i64 x.known, .int .i64 x.gone] 49)
                exact hBy.grown hgrow hBy.size (fun r e => (HOI.out.lt r e).1)
              · rw [HSU2.out, List.length_append, List.flatMap_append, List.flatMap_cons, List.flatMap_nil, List.append_nil]
                exact hown'
    · obtain rfl : i = l.length := by omega
      rw [HRR.out] at hown
      have hlen : (standL l day time).length ≤ 1024 := by
        have := rstTo_len l day time l.length
        rw [HRR.out] at this; omega
      have hsl : SlE wr wr.heap.size _ (standL l day time) := own_slG hown (fun _ => rfl) rfl (by omega)
      have HSL := Lib.hid hsl
      clear hown hsl hlen
      go_wp2
      go_ret2
      exact ⟨⟨_, rfl, HSL.out⟩, hBr⟩
theorem r33stand_any (l : List En) (v : Value) (day time : Int) (w : World) (h : SlE w w.heap.size v l) :
    Calls Tryz.prog 79 #[v, .int .i64 day, .int .i64 time] w fun e w' => (∃ x, e = .returned (.tuple #[x, .int .i64 (stE l day time)]) ∧ SlE w' w'.heap.size x (standX l day time)) ∧ Below w.heap.size w w' := by
  unfold standX
  by_cases hs : stE l day time = 0
  · rw [if_pos hs, hs]; exact r33stand_good l v day time w h hs
  · rw [if_neg hs]
    refine (r33stand_bad l v day time w h hs).mono ?_
    rintro e w' ⟨rfl, hb⟩
    exact ⟨⟨_, rfl, SlG.nil_ _ _⟩, hb⟩
end Go.Proofs.YthckledagggoiaaGreatDoor
