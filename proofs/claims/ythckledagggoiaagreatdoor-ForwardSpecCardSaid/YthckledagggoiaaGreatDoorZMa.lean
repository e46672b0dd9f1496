import Derived.Test.YthckledagggoiaaGreatDoorZAr4
set_option linter.unusedSimpArgs false
set_option linter.unusedVariables false
namespace Go.Proofs.YthckledagggoiaaGreatDoor
open Go.RowKit Fk
/-! The reference's registry: Standing. -/
def stB (l : List En) (day time : Int) (x : En) (k : Nat) : Bool := cntB day time x && !((l.take k).any fun y => cntB day time y && repB y x)
theorem stB_succ {l : List En} {day time : Int} {x : En} {k : Nat} (h : k < l.length) : stB l day time x (k + 1) = (stB l day time x k && !(cntB day time (l.getD k default) && repB (l.getD k default) x)) := by
  unfold stB
  rw [takeD h, List.any_append, List.any_cons, List.any_nil, Bool.or_false, Bool.not_or, Bool.and_assoc]
theorem stB_all (l : List En) (day time : Int) (x : En) : stB l day time x l.length = (cntB day time x && !(l.any fun y => cntB day time y && repB y x)) := by
  unfold stB; rw [List.take_length]
def rstTo (l : List En) (day time : Int) (k : Nat) : List En := (l.take k).filter fun x => stB l day time x l.length
theorem rstTo_succ {l : List En} {day time : Int} {k : Nat} (h : k < l.length) : rstTo l day time (k + 1) = if stB l day time (l.getD k default) l.length then rstTo l day time k ++ [l.getD k default] else rstTo l day time k := by
  unfold rstTo
  rw [takeD h, List.filter_append, List.filter_cons, List.filter_nil]
  cases stB l day time (l.getD k default) l.length <;> simp
theorem rstTo_all (l : List En) (day time : Int) : rstTo l day time l.length = rstandL l day time := by
  unfold rstTo rstandL
  rw [List.take_length]
  exact List.filter_congr fun x _ => stB_all l day time x
theorem rstTo_len (l : List En) (day time : Int) (k : Nat) : (rstTo l day time k).length ≤ l.length := by
  unfold rstTo
  exact Nat.le_trans (List.length_filter_le _ _) (by rw [List.length_take]; omega)
theorem clock_cases (day time : Int) : (clockB day time = true ∧ 0 ≤ day ∧ day < 2097152 ∧ 0 ≤ time ∧ time < 2097152) ∨ (clockB day time = false ∧ (day < 0 ∨ 2097152 ≤ day ∨ time < 0 ∨ 2097152 ≤ time)) := by
  unfold clockB
  by_cases h1 : 0 ≤ day
  · by_cases h2 : 0 ≤ time
    · by_cases h3 : day < 2097152
      · by_cases h4 : time < 2097152
        · exact .inl ⟨by rw [decide_eq_true h1, decide_eq_true h2, decide_eq_true h3, decide_eq_true h4]; rfl, h1, h3, h2, h4⟩
        · exact .inr ⟨by rw [decide_eq_false h4]; simp, by omega⟩
      · exact .inr ⟨by rw [decide_eq_false h3]; simp, by omega⟩
    · exact .inr ⟨by rw [decide_eq_false h2]; simp, by omega⟩
  · exact .inr ⟨by rw [decide_eq_false h1]; rfl, by omega⟩
set_option maxRecDepth 100000 in
set_option maxHeartbeats 4000000 in
theorem r33stand_bad (l : List En) (v : Value) (day time : Int) (w : World) (h : SlE w w.heap.size v l) (hs : stE l day time ≠ 0) :
    Calls Tryz.prog 79 #[v, .int .i64 day, .int .i64 time] w fun e w' => e = .returned (.tuple #[.slice none 0 0, .int .i64 (stE l day time)]) ∧ Below w.heap.size w w' := by
  have hck := r33check_any l v w h
  have hE : stE l day time = if chkE l = 0 then (if clockB day time then 0 else 1) else chkE l := rfl
  by_cases hc : chkE l = 0
  · rw [if_pos hc] at hE
    rw [hc] at hck
    rcases clock_cases day time with ⟨h1, _⟩ | ⟨h1, h2⟩
    · rw [h1] at hE; exact absurd hE hs
    · rw [h1] at hE
      rw [hE]
      have HCK := Lib.hid hck
      clear hck hc hE hs h1 h
      by_cases a1 : day < 0
      · have f1 : decide (day < 0) = true := decide_eq_true a1
        clear h2 a1
        go_enter Tryz.func79, Tryz.ntmps79
        go_wp2_with (go_at_call 16; (with_reducible refine HCK.out.mono ?_); rintro e w1 ⟨rfl, hb1⟩)
        go_ret2
        exact ⟨rfl, hb1⟩
      have f1 : decide (day < 0) = false := decide_eq_false a1
      by_cases a2 : 2097152 ≤ day
      · have f2 : decide (2097152 ≤ day) = true := decide_eq_true a2
        clear h2 a1 a2
        go_enter Tryz.func79, Tryz.ntmps79
        go_wp2_with (go_at_call 16; (with_reducible refine HCK.out.mono ?_); rintro e w1 ⟨rfl, hb1⟩)
        go_ret2
        exact ⟨rfl, hb1⟩
      have f2 : decide (2097152 ≤ day) = false := decide_eq_false a2
      by_cases a3 : time < 0
      · have f3 : decide (time < 0) = true := decide_eq_true a3
        clear h2 a1 a2 a3
        go_enter Tryz.func79, Tryz.ntmps79
        go_wp2_with (go_at_call 16; (with_reducible refine HCK.out.mono ?_); rintro e w1 ⟨rfl, hb1⟩)
        go_ret2
        exact ⟨rfl, hb1⟩
      have f3 : decide (time < 0) = false := decide_eq_false a3
      have f4 : decide (2097152 ≤ time) = true := decide_eq_true (by omega)
      clear h2 a1 a2 a3
      go_enter Tryz.func79, Tryz.ntmps79
      go_wp2_with (go_at_call 16; (with_reducible refine HCK.out.mono ?_); rintro e w1 ⟨rfl, hb1⟩)
      go_ret2
      exact ⟨rfl, hb1⟩
  · rw [if_neg hc] at hE
    obtain ⟨E, hEE⟩ : ∃ E, chkE l = E := ⟨_, rfl⟩
    rw [hE, hEE]
    rw [hEE] at hck hc
    have f1 : (E != 0) = true := bne_iff_ne.2 hc
    have HCK := Lib.hid hck
    clear hck hc hE hEE hs h
    go_enter Tryz.func79, Tryz.ntmps79
    go_wp2_with (go_at_call 16; (with_reducible refine HCK.out.mono ?_); rintro e w1 ⟨rfl, hb1⟩)
    go_ret2
    exact ⟨rfl, hb1⟩
set_option maxRecDepth 100000 in
set_option maxHeartbeats 8000000 in
theorem r33stand_good (l : List En) (v : Value) (day time : Int) (w : World) (h : SlE w w.heap.size v l) (hs : stE l day time = 0) :
    Calls Tryz.prog 79 #[v, .int .i64 day, .int .i64 time] w fun e w' => (∃ x, e = .returned (.tuple #[x, .int .i64 0]) ∧ SlE w' w'.heap.size x (standL l day time)) ∧ Below w.heap.size w w' := by
  obtain ⟨i0, hi, hz0, hz1, hz2⟩ := info_parts infoE
  have hck := r33check_any l v w h
  have hl10 := stE_len hs
  have hE : stE l day time = if chkE l = 0 then (if clockB day time then 0 else 1) else chkE l := rfl
  have hc : chkE l = 0 := by
    by_cases hc : chkE l = 0
    · exact hc
    · rw [if_neg hc] at hE; exact absurd (hE.symm.trans hs) hc
  rw [hc] at hck
  rw [if_pos hc] at hE
  have hb4 : 0 ≤ day ∧ day < 2097152 ∧ 0 ≤ time ∧ time < 2097152 := by
    rcases clock_cases day time with ⟨_, h2⟩ | ⟨h1, _⟩
    · exact h2
    · rw [h1, hs] at hE; cases hE
  have f1 : decide (day < 0) = false := decide_eq_false (by omega)
  have f2 : decide (2097152 ≤ day) = false := decide_eq_false (by omega)
  have f3 : decide (time < 0) = false := decide_eq_false (by omega)
  have f4 : decide (2097152 ≤ time) = false := decide_eq_false (by omega)
  have hR := (rstTo_all l day time).trans (rstand_eq hc day time)
  have HRR := Lib.hid hR
  have HS := Lib.hid h
  have HCK := Lib.hid hck
  have hcn := fun (x : En) => r33counts_any x day time
  have HCN := Lib.hid hcn
  obtain ⟨_, A, c, rfl, _⟩ := h
  clear hck hc hE hs hR hcn hb4
  go_enter Tryz.func79, Tryz.ntmps79
  go_wp2_with (go_at_call 16; (with_reducible refine HCK.out.mono ?_); rintro e w1 ⟨rfl, hb1⟩)
  have hsz1 := hb1.size
  have hB1 := hb1.alloc hb1.size (.cells #[] 49)
  have hO : (w1.alloc (.cells #[] 49)).ownsRow w.heap.size 49 8 (.slice (some ⟨w1.heap.size, 0, none⟩) 0 0) 0 [] := World.ownsRow_made (base := w.heap.size) w1 #[] 0 hsz1 (by unfold maxLen; omega) (by simp)
  clear f1 f2 f3 f4 hb1
  go_loopg [9, 10] l.length (fun g xv iv wr => ∃ i : Nat, iv = .int .i64 i ∧ i + g = l.length ∧ Below w.heap.size w wr ∧ wr.ownsRow w.heap.size 49 8 xv (rstTo l day time i).length ((rstTo l day time i).flatMap En.cells))
  case atStart => exact ⟨0, rfl, by omega, hB1, hO⟩
  case round =>
    obtain ⟨i, rfl, hig, hBr, hown⟩ := hrel
    clear hB1 hO
    by_cases hlt : i < l.length
    · obtain ⟨b, off, c', hv, hb, hE⟩ := ent_at (HS.out.below hBr) hlt
      cases hv
      have hEE := Lib.hid hE
      have ex := hE i hlt
      have hsuc := rstTo_succ (day := day) (time := time) hlt
      obtain ⟨x, hx⟩ : ∃ x, l.getD i default = x := ⟨_, rfl⟩
      rw [hx] at ex hsuc
      have hcx := HCN.out x
      have HX := Lib.hid hx
      have HSU := Lib.hid hsuc
      have hbr : b < wr.heap.size := by have := hBr.size; omega
      have EX := Lib.hid ex
      have s1 : (0 : Int) ≤ i := by omega
      have s2 : (i : Int) < l.length := by omega
      have HO := Lib.hid hown
      have HLN := Lib.hid (rstTo_len l day time i)
      obtain ⟨bx, hbx⟩ : ∃ bx, cntB day time x = bx := ⟨_, rfl⟩
      have hst0 : stB l day time x 0 = bx := by unfold stB; rw [hbx]; simp
      rw [hbx] at hcx
      unfold En.val at hcx
      have HCX := Lib.hid hcx
      have HG := Lib.hid hig
      have HST0 := Lib.hid hst0
      obtain ⟨d0, d1, d2, d3, d4, d5, d6, d7⟩ := ex
      clear hx hsuc hcx hbx hst0 hown hig hE
      go_wp2_with (go_at_call 130; (with_reducible refine (HCX.out _).mono ?_); rintro e w2 ⟨rfl, hb2⟩)
      obtain ⟨G0, rfl⟩ : ∃ G0 : Nat, G0 = gk := ⟨_, rfl⟩
      obtain ⟨xo, rfl⟩ : ∃ xo : Value, xo = u9 := ⟨_, rfl⟩
      obtain ⟨wo, rfl⟩ : ∃ wo : World, wo = wr := ⟨_, rfl⟩
      clear d0 d1 d2 d3 d4 d5 d6 d7 s1 s2
      have hO2 := HO.out.kept (grown_below' hb2 none) (by by_cases h : xo.ownBlock = none; exact .inl h; exact .inr h)
      have hB2 := hBr.trans (hb2.mono hBr.size)
      go_loopg [11, 12] l.length (fun g sv kv wi => ∃ k : Nat, kv = .int .i64 k ∧ k + g = l.length ∧ sv = .bool (stB l day time x k) ∧ Below w.heap.size w wi ∧ Below wo.heap.size wo wi)
      case atStart => exact ⟨0, rfl, by omega, by rw [HST0.out], hB2, hb2⟩
      case round =>
        clear hO2 hB2 hb2
        obtain ⟨k, rfl, hkg, rfl, hBi, hWi⟩ := hrel
        by_cases hlk : k < l.length
        · have hbi : b < wr.heap.size := by have := hWi.size; omega
          have ey := (hEE.out k hlk).below hWi hbr
          have hex := EX.out.below hWi hbr
          have hss := stB_succ (day := day) (time := time) (x := x) hlk
          obtain ⟨y, hy⟩ : ∃ y, l.getD k default = y := ⟨_, rfl⟩
          rw [hy] at ey hss
          have hcy := HCN.out y
          have hre := r33replaces_any y x
          obtain ⟨cy, hcyb⟩ : ∃ b, cntB day time y = b := ⟨_, rfl⟩
          obtain ⟨ry, hryb⟩ : ∃ b, repB y x = b := ⟨_, rfl⟩
          obtain ⟨sb, hsb⟩ : ∃ b, stB l day time x k = b := ⟨_, rfl⟩
          rw [hcyb] at hcy hss
          rw [hryb] at hre hss
          rw [hsb] at hss ⊢
          unfold En.val at hcy hre
          have HCY := Lib.hid hcy
          have HRE := Lib.hid hre
          have HSS := Lib.hid hss
          have EY := Lib.hid ey
          have EX2 := Lib.hid hex
          have s1 : (0 : Int) ≤ k := by omega
          have s2 : (k : Int) < l.length := by omega
          have s3 : (0 : Int) ≤ i := by omega
          have s4 : (i : Int) < l.length := by omega
          clear hy hcy hre hss ey hex hcyb hryb hsb
          cases cy with
          | false =>
            go_wp2
            refine wp_region_det 17 (fun w0 => Below wr.heap.size wr w0) (by kernel_rfl) (by kernel_rfl) (Below.refl _ _).drew ?_
            iterate 3
              refine wpDet_take (v := ?_) rfl (by kernel_rfl) (fun w0 hSw => ?_) ?_
              rotate_left 1
              · skip
                go_simp
                with_reducible rfl
              simp only [Act.put, List.getElem_toArray, List.getElem_cons_succ, List.getElem_cons_zero, List.setIfInBounds_toArray, List.set_cons_zero, List.set_cons_succ]
            refine wpDet_take (v := .agg #[.int .i64 y.no, .int .i64 y.kind, .int .i64 y.a, .int .i64 y.b, .int .i64 y.from_, .int .i64 y.until_, .int .i64 y.known, .int .i64 y.gone]) rfl (by kernel_rfl) (fun w0 hSw => ?_) ?_
            · obtain ⟨d0, d1, d2, d3, d4, d5, d6, d7⟩ := EY.out.below hSw hbi
              go_simp
            simp only [Act.put, List.getElem_toArray, List.getElem_cons_succ, List.getElem_cons_zero, List.setIfInBounds_toArray, List.set_cons_zero, List.set_cons_succ]
            iterate 2
              refine wpDet_take (v := ?_) rfl (by kernel_rfl) (fun w0 hSw => ?_) ?_
              rotate_left 1
              · skip
                go_simp
                with_reducible rfl
              simp only [Act.put, List.getElem_toArray, List.getElem_cons_succ, List.getElem_cons_zero, List.setIfInBounds_toArray, List.set_cons_zero, List.set_cons_succ]
            refine wpDet_call (v := .bool false) rfl (by kernel_rfl) (fun w0 hSw K hK => ?_) ?_
            · go_simp
              go_at_call 130
              refine (HCY.out _).mono ?_
              rintro e w9 ⟨rfl, hb⟩
              exact hK _ (hSw.trans (hb.mono hSw.size))
            simp only [Act.put, List.getElem_toArray, List.getElem_cons_succ, List.getElem_cons_zero, List.setIfInBounds_toArray, List.set_cons_zero, List.set_cons_succ]
            iterate 1
              refine wpDet_take (v := ?_) rfl (by kernel_rfl) (fun w0 hSw => ?_) ?_
              rotate_left 1
              · skip
                go_simp
                with_reducible rfl
              simp only [Act.put, List.getElem_toArray, List.getElem_cons_succ, List.getElem_cons_zero, List.setIfInBounds_toArray, List.set_cons_zero, List.set_cons_succ]
            iterate 9
              refine wpDet_skip rfl (by kernel_rfl) ?_
              simp only [Act.put, List.getElem_toArray, List.getElem_cons_succ, List.getElem_cons_zero, List.setIfInBounds_toArray, List.set_cons_zero, List.set_cons_succ]
            refine wpDet_done (fun wd hd => ?_)
            have hBd := hBi.trans (hd.mono hBi.size)
            have hWd := hWi.trans (hd.mono hWi.size)
            clear s1 s2 s3 s4
            go_wp2
            go_roundg (gk - 1)
            case measure => omega
            case rel => exact ⟨k + 1, by first | rfl | go_num, by omega, by rw [HSS.out]; simp, hBd, hWd⟩
          | true =>
            cases ry with
            | false =>
              go_wp2
              refine wp_region_det 17 (fun w0 => Below wr.heap.size wr w0) (by kernel_rfl) (by kernel_rfl) (Below.refl _ _).drew ?_
              iterate 3
                refine wpDet_take (v := ?_) rfl (by kernel_rfl) (fun w0 hSw => ?_) ?_
                rotate_left 1
                · skip
                  go_simp
                  with_reducible rfl
                simp only [Act.put, List.getElem_toArray, List.getElem_cons_succ, List.getElem_cons_zero, List.setIfInBounds_toArray, List.set_cons_zero, List.set_cons_succ]
              refine wpDet_take (v := .agg #[.int .i64 y.no, .int .i64 y.kind, .int .i64 y.a, .int .i64 y.b, .int .i64 y.from_, .int .i64 y.until_, .int .i64 y.known, .int .i64 y.gone]) rfl (by kernel_rfl) (fun w0 hSw => ?_) ?_
              · obtain ⟨d0, d1, d2, d3, d4, d5, d6, d7⟩ := EY.out.below hSw hbi
                go_simp
              simp only [Act.put, List.getElem_toArray, List.getElem_cons_succ, List.getElem_cons_zero, List.setIfInBounds_toArray, List.set_cons_zero, List.set_cons_succ]
              iterate 2
                refine wpDet_take (v := ?_) rfl (by kernel_rfl) (fun w0 hSw => ?_) ?_
                rotate_left 1
                · skip
                  go_simp
                  with_reducible rfl
                simp only [Act.put, List.getElem_toArray, List.getElem_cons_succ, List.getElem_cons_zero, List.setIfInBounds_toArray, List.set_cons_zero, List.set_cons_succ]
              refine wpDet_call (v := .bool true) rfl (by kernel_rfl) (fun w0 hSw K hK => ?_) ?_
              · go_simp
                go_at_call 130
                refine (HCY.out _).mono ?_
                rintro e w9 ⟨rfl, hb⟩
                exact hK _ (hSw.trans (hb.mono hSw.size))
              simp only [Act.put, List.getElem_toArray, List.getElem_cons_succ, List.getElem_cons_zero, List.setIfInBounds_toArray, List.set_cons_zero, List.set_cons_succ]
              iterate 1
                refine wpDet_take (v := ?_) rfl (by kernel_rfl) (fun w0 hSw => ?_) ?_
                rotate_left 1
                · skip
                  go_simp
                  with_reducible rfl
                simp only [Act.put, List.getElem_toArray, List.getElem_cons_succ, List.getElem_cons_zero, List.setIfInBounds_toArray, List.set_cons_zero, List.set_cons_succ]
              iterate 3
                refine wpDet_take (v := ?_) rfl (by kernel_rfl) (fun w0 hSw => ?_) ?_
                rotate_left 1
                · skip
                  go_simp
                  with_reducible rfl
                simp only [Act.put, List.getElem_toArray, List.getElem_cons_succ, List.getElem_cons_zero, List.setIfInBounds_toArray, List.set_cons_zero, List.set_cons_succ]
              refine wpDet_take (v := .agg #[.int .i64 y.no, .int .i64 y.kind, .int .i64 y.a, .int .i64 y.b, .int .i64 y.from_, .int .i64 y.until_, .int .i64 y.known, .int .i64 y.gone]) rfl (by kernel_rfl) (fun w0 hSw => ?_) ?_
              · obtain ⟨d0, d1, d2, d3, d4, d5, d6, d7⟩ := EY.out.below hSw hbi
                go_simp
              simp only [Act.put, List.getElem_toArray, List.getElem_cons_succ, List.getElem_cons_zero, List.setIfInBounds_toArray, List.set_cons_zero, List.set_cons_succ]
              iterate 3
                refine wpDet_take (v := ?_) rfl (by kernel_rfl) (fun w0 hSw => ?_) ?_
                rotate_left 1
                · skip
                  go_simp
                  with_reducible rfl
                simp only [Act.put, List.getElem_toArray, List.getElem_cons_succ, List.getElem_cons_zero, List.setIfInBounds_toArray, List.set_cons_zero, List.set_cons_succ]
              refine wpDet_take (v := .agg #[.int .i64 x.no, .int .i64 x.kind, .int .i64 x.a, .int .i64 x.b, .int .i64 x.from_, .int .i64 x.until_, .int .i64 x.known, .int .i64 x.gone]) rfl (by kernel_rfl) (fun w0 hSw => ?_) ?_
              · obtain ⟨d0, d1, d2, d3, d4, d5, d6, d7⟩ := EX2.out.below hSw hbi
                go_simp
              simp only [Act.put, List.getElem_toArray, List.getElem_cons_succ, List.getElem_cons_zero, List.setIfInBounds_toArray, List.set_cons_zero, List.set_cons_succ]
              refine wpDet_call (v := .bool false) rfl (by kernel_rfl) (fun w0 hSw K hK => ?_) ?_
              · go_simp
                go_at_call 131
                refine (HRE.out _).mono ?_
                rintro e w9 ⟨rfl, hb⟩
                exact hK _ (hSw.trans (hb.mono hSw.size))
              simp only [Act.put, List.getElem_toArray, List.getElem_cons_succ, List.getElem_cons_zero, List.setIfInBounds_toArray, List.set_cons_zero, List.set_cons_succ]
              refine wpDet_done (fun wd hd => ?_)
              have hBd := hBi.trans (hd.mono hBi.size)
              have hWd := hWi.trans (hd.mono hWi.size)
              clear s1 s2 s3 s4
              go_wp2
              go_roundg (gk - 1)
              case measure => omega
              case rel => exact ⟨k + 1, by first | rfl | go_num, by omega, by rw [HSS.out]; simp, hBd, hWd⟩
            | true =>
              go_wp2
              refine wp_region_det 17 (fun w0 => Below wr.heap.size wr w0) (by kernel_rfl) (by kernel_rfl) (Below.refl _ _).drew ?_
              iterate 3
                refine wpDet_take (v := ?_) rfl (by kernel_rfl) (fun w0 hSw => ?_) ?_
                rotate_left 1
                · skip
                  go_simp
                  with_reducible rfl
                simp only [Act.put, List.getElem_toArray, List.getElem_cons_succ, List.getElem_cons_zero, List.setIfInBounds_toArray, List.set_cons_zero, List.set_cons_succ]
              refine wpDet_take (v := .agg #[.int .i64 y.no, .int .i64 y.kind, .int .i64 y.a, .int .i64 y.b, .int .i64 y.from_, .int .i64 y.until_, .int .i64 y.known, .int .i64 y.gone]) rfl (by kernel_rfl) (fun w0 hSw => ?_) ?_
              · obtain ⟨d0, d1, d2, d3, d4, d5, d6, d7⟩ := EY.out.below hSw hbi
                go_simp
              simp only [Act.put, List.getElem_toArray, List.getElem_cons_succ, List.getElem_cons_zero, List.setIfInBounds_toArray, List.set_cons_zero, List.set_cons_succ]
              iterate 2
                refine wpDet_take (v := ?_) rfl (by kernel_rfl) (fun w0 hSw => ?_) ?_
                rotate_left 1
                · skip
                  go_simp
                  with_reducible rfl
                simp only [Act.put, List.getElem_toArray, List.getElem_cons_succ, List.getElem_cons_zero, List.setIfInBounds_toArray, List.set_cons_zero, List.set_cons_succ]
              refine wpDet_call (v := .bool true) rfl (by kernel_rfl) (fun w0 hSw K hK => ?_) ?_
              · go_simp
                go_at_call 130
                refine (HCY.out _).mono ?_
                rintro e w9 ⟨rfl, hb⟩
                exact hK _ (hSw.trans (hb.mono hSw.size))
              simp only [Act.put, List.getElem_toArray, List.getElem_cons_succ, List.getElem_cons_zero, List.setIfInBounds_toArray, List.set_cons_zero, List.set_cons_succ]
              iterate 1
                refine wpDet_take (v := ?_) rfl (by kernel_rfl) (fun w0 hSw => ?_) ?_
                rotate_left 1
                · skip
                  go_simp
                  with_reducible rfl
                simp only [Act.put, List.getElem_toArray, List.getElem_cons_succ, List.getElem_cons_zero, List.setIfInBounds_toArray, List.set_cons_zero, List.set_cons_succ]
              iterate 3
                refine wpDet_take (v := ?_) rfl (by kernel_rfl) (fun w0 hSw => ?_) ?_
                rotate_left 1
                · skip
                  go_simp
                  with_reducible rfl
                simp only [Act.put, List.getElem_toArray, List.getElem_cons_succ, List.getElem_cons_zero, List.setIfInBounds_toArray, List.set_cons_zero, List.set_cons_succ]
              refine wpDet_take (v := .agg #[.int .i64 y.no, .int .i64 y.kind, .int .i64 y.a, .int .i64 y.b, .int .i64 y.from_, .int .i64 y.until_, .int .i64 y.known, .int .i64 y.gone]) rfl (by kernel_rfl) (fun w0 hSw => ?_) ?_
              · obtain ⟨d0, d1, d2, d3, d4, d5, d6, d7⟩ := EY.out.below hSw hbi
                go_simp
              simp only [Act.put, List.getElem_toArray, List.getElem_cons_succ, List.getElem_cons_zero, List.setIfInBounds_toArray, List.set_cons_zero, List.set_cons_succ]
              iterate 3
                refine wpDet_take (v := ?_) rfl (by kernel_rfl) (fun w0 hSw => ?_) ?_
                rotate_left 1
                · skip
                  go_simp
                  with_reducible rfl
                simp only [Act.put, List.getElem_toArray, List.getElem_cons_succ, List.getElem_cons_zero, List.setIfInBounds_toArray, List.set_cons_zero, List.set_cons_succ]
              refine wpDet_take (v := .agg #[.int .i64 x.no, .int .i64 x.kind, .int .i64 x.a, .int .i64 x.b, .int .i64 x.from_, .int .i64 x.until_, .int .i64 x.known, .int .i64 x.gone]) rfl (by kernel_rfl) (fun w0 hSw => ?_) ?_
              · obtain ⟨d0, d1, d2, d3, d4, d5, d6, d7⟩ := EX2.out.below hSw hbi
                go_simp
              simp only [Act.put, List.getElem_toArray, List.getElem_cons_succ, List.getElem_cons_zero, List.setIfInBounds_toArray, List.set_cons_zero, List.set_cons_succ]
              refine wpDet_call (v := .bool true) rfl (by kernel_rfl) (fun w0 hSw K hK => ?_) ?_
              · go_simp
                go_at_call 131
                refine (HRE.out _).mono ?_
                rintro e w9 ⟨rfl, hb⟩
                exact hK _ (hSw.trans (hb.mono hSw.size))
              simp only [Act.put, List.getElem_toArray, List.getElem_cons_succ, List.getElem_cons_zero, List.setIfInBounds_toArray, List.set_cons_zero, List.set_cons_succ]
              refine wpDet_done (fun wd hd => ?_)
              have hBd := hBi.trans (hd.mono hBi.size)
              have hWd := hWi.trans (hd.mono hWi.size)
              clear s1 s2 s3 s4
              go_wp2
              go_roundg (gk - 1)
              case measure => omega
              case rel => exact ⟨k + 1, by first | rfl | go_num, by omega, by rw [HSS.out]; simp, hBd, hWd⟩
        · obtain rfl : k = l.length := by omega
          have hsu := HSU.out
          obtain ⟨sb, hsb⟩ : ∃ b, stB l day time x l.length = b := ⟨_, rfl⟩
          rw [hsb] at hsu ⊢
          have hg := HG.out
          have hln := HLN.out
          have hOi := HO.out.kept (grown_below' hWi none) (by by_cases h : xo.ownBlock = none; exact .inl h; exact .inr h)
          clear hsb
          cases sb with
          | false =>
            rw [if_neg (by decide)] at hsu
            have HSU2 := Lib.hid hsu
            have HOI := Lib.hid hOi
            clear hsu hOi
            go_wp2
            go_roundg (G0 - 1)
            case measure => omega
            case rel => exact ⟨i + 1, by first | rfl | go_num, by omega, hBi, by rw [HSU2.out]; exact HOI.out⟩
          | true =>
            rw [if_pos rfl] at hsu
            have HSU2 := Lib.hid hsu
            have HOI := Lib.hid hOi
            obtain ⟨d0, d1, d2, d3, d4, d5, d6, d7⟩ := EX.out.below hWi hbr
            have s3 : (0 : Int) ≤ i := by omega
            have s4 : (i : Int) < l.length := by omega
            have hszi := hBi.size
            clear hsu hOi
            go_wp2_with (at_builtin; go_loud (refine wpList_append_own _ rfl _ _ 26 rfl w.heap.size 49 i0 zeroE.val 8 64 Tryz.underlying26 hi hz0 hz1 hz2 rfl (by decide) _ _ _ rfl (HOI.out.alloc _) ⟨wr.heap.size, 0, none⟩ 1 1 x.cells rfl rfl (cells_new wr 49 x.cells) (by simp [En.cells, Value.oneCell']) (by unfold maxLen; omega) (by omega) (by simp; omega) ?_; intro v' w3 hown' hgrow _))
            go_roundg (G0 - 1)
            case measure => omega
            case rel =>
              refine ⟨i + 1, by first | rfl | go_num, by omega, ?_, ?_⟩
              · have hBy := hBi.alloc hBi.size (.cells #[.int .i64 x.no, .int .i64 x.kind, .int .i64 x.a, .int .i64 x.b, .int .i64 x.from_, .int .i64 x.until_, .int .i64 x.known, .int .i64 x.gone] 49)
                exact hBy.grown hgrow hBy.size (fun r e => (HOI.out.lt r e).1)
              · rw [HSU2.out, List.length_append, List.flatMap_append, List.flatMap_cons, List.flatMap_nil, List.append_nil]
                exact hown'
    · obtain rfl : i = l.length := by omega
      rw [HRR.out] at hown
      have hlen : (standL l day time).length ≤ 1024 := by
        have := rstTo_len l day time l.length
        rw [HRR.out] at this; omega
      have hsl : SlE wr wr.heap.size _ (standL l day time) := own_slG hown (fun _ => rfl) rfl (by omega)
      have HSL := Lib.hid hsl
      clear hown hsl hlen
      go_wp2
      go_ret2
      exact ⟨⟨_, rfl, HSL.out⟩, hBr⟩
theorem r33stand_any (l : List En) (v : Value) (day time : Int) (w : World) (h : SlE w w.heap.size v l) :
    Calls Tryz.prog 79 #[v, .int .i64 day, .int .i64 time] w fun e w' => (∃ x, e = .returned (.tuple #[x, .int .i64 (stE l day time)]) ∧ SlE w' w'.heap.size x (standX l day time)) ∧ Below w.heap.size w w' := by
  unfold standX
  by_cases hs : stE l day time = 0
  · rw [if_pos hs, hs]; exact r33stand_good l v day time w h hs
  · rw [if_neg hs]
    refine (r33stand_bad l v day time w h hs).mono ?_
    rintro e w' ⟨rfl, hb⟩
    exact ⟨⟨_, rfl, SlG.nil_ _ _⟩, hb⟩
end Go.Proofs.YthckledagggoiaaGreatDoor

set_option linter.unusedSimpArgs false
set_option linter.unusedVariables false
namespace Go.Proofs.YthckledagggoiaaGreatDoor
open Go.RowKit Fk
/-! The reference's homes: Has, find, Asked. -/
set_option maxRecDepth 100000 in
set_option maxHeartbeats 2000000 in
theorem r25has_any (l : List Int) (v : Value) (n : Int) (w : World) (h : SlI w w.heap.size v l) (hl : l.length ≤ 100000) :
    Calls Tryz.prog 138 #[v, .int .i64 n] w fun e w' => e = .returned (.bool (decide (n ∈ l))) ∧ Below w.heap.size w w' := by
  have HS := Lib.hid h
  obtain ⟨_, A, c, rfl, _⟩ := h
  obtain ⟨R, hR⟩ : ∃ R, decide (n ∈ l) = R := ⟨_, rfl⟩
  rw [hR]
  have HR := Lib.hid hR
  clear hR
  go_enter Tryz.func138, Tryz.ntmps138
  go_wp2
  go_loopg [5] l.length (fun g iv wr => Below w.heap.size w wr ∧ ∃ k : Nat, iv = .int .i64 k ∧ k + g = l.length ∧ ∀ i, i < k → l.getD i default ≠ n)
  case atStart => exact ⟨Below.refl _ _, 0, rfl, by omega, fun i hi => by omega⟩
  case round =>
    obtain ⟨hBr, k, rfl, hk, hall⟩ := hrel
    have HA := Lib.hid hall
    clear hall
    by_cases hlt : k < l.length
    · obtain ⟨_, A', c', hv, hE⟩ := HS.out.below hBr
      obtain ⟨b, off, rfl, hb, hE⟩ := hE (by omega)
      cases hv
      have d1 := hE.int hlt
      have hmem : l.getD k default ∈ l := by rw [List.getD_eq_getElem?_getD, List.getElem?_eq_getElem hlt]; exact List.getElem_mem hlt
      obtain ⟨m, hm⟩ : ∃ m, l.getD k default = m := ⟨_, rfl⟩
      rw [hm] at d1 hmem
      have HM := Lib.hid hm
      have s1 : (0 : Int) ≤ k := by omega
      have s2 : (k : Int) < l.length := by omega
      by_cases hmn : m = n
      · have z : (m == n) = true := by rw [hmn]; exact beq_self_eq_true n
        have hr : R = true := by rw [← HR.out, decide_eq_true_eq, ← hmn]; exact hmem
        have HRR := Lib.hid hr
        clear hE hm hmn hmem hr
        go_wp2
        rw [HRR.out]
        go_ret
        exact ⟨rfl, hBr⟩
      · have z : (m == n) = false := beq_eq_false_iff_ne.2 hmn
        have HMN := Lib.hid hmn
        clear hE hm hmn hmem
        go_wp2
        go_roundg (gk - 1)
        case measure => omega
        case rel => exact ⟨hBr, k + 1, by first | rfl | go_num, by omega, fun i hi => by
          by_cases hik : i = k
          · subst hik; rw [HM.out]; exact HMN.out
          · exact HA.out i (by omega)⟩
    · obtain rfl : k = l.length := by omega
      have hr : R = false := by
        rw [← HR.out, decide_eq_false_iff_not]
        intro hn
        obtain ⟨i, hi, rfl⟩ := List.getElem_of_mem hn
        exact HA.out i hi (by rw [List.getD_eq_getElem?_getD, List.getElem?_eq_getElem hi]; rfl)
      have HRR := Lib.hid hr
      clear hr
      go_wp2
      rw [HRR.out]
      go_ret
      exact ⟨rfl, hBr⟩
set_option maxRecDepth 100000 in
set_option maxHeartbeats 4000000 in
theorem r34find_any (X : List En) (v : Value) (k a : Int) (w : World) (h : SlE w w.heap.size v X) (hl : X.length ≤ 100000) :
    Calls Tryz.prog 102 #[v, .int .i64 k, .int .i64 a] w fun e w' => e = .returned (.int .i64 (optZ (findN X k a))) ∧ Below w.heap.size w w' := by
  have HS := Lib.hid h
  obtain ⟨_, A, c, rfl, _⟩ := h
  obtain ⟨R, hR⟩ : ∃ R, optZ (findN X k a) = R := ⟨_, rfl⟩
  rw [hR]
  have HR := Lib.hid hR
  clear hR
  go_enter Tryz.func102, Tryz.ntmps102
  go_wp2
  go_loopg [7] X.length (fun g iv wr => Below w.heap.size w wr ∧ ∃ i : Nat, iv = .int .i64 i ∧ i + g = X.length ∧ ∀ q, q < i → findP X k a q = false)
  case atStart => exact ⟨Below.refl _ _, 0, rfl, by omega, fun i hi => by omega⟩
  case round =>
    obtain ⟨hBr, i, rfl, hk, hall⟩ := hrel
    have HA := Lib.hid hall
    clear hall
    by_cases hlt : i < X.length
    · obtain ⟨b, off, c', hv, hb, hE⟩ := ent_at (HS.out.below hBr) hlt
      cases hv
      obtain ⟨d0, d1, d2, d3, d4, d5, d6, d7⟩ := hE i hlt
      have hfp : findP X k a i = decide ((X.getD i default).kind = k ∧ (X.getD i default).a = a) := rfl
      obtain ⟨x, hx⟩ : ∃ x, X.getD i default = x := ⟨_, rfl⟩
      rw [hx] at d0 d1 d2 d3 d4 d5 d6 d7 hfp
      have HFP := Lib.hid hfp
      have s1 : (0 : Int) ≤ i := by omega
      have s2 : (i : Int) < X.length := by omega
      have nxt : findP X k a i = false → ∀ q, q < i + 1 → findP X k a q = false := fun h q hq => by
        by_cases hqi : q = i
        · rw [hqi]; exact h
        · exact HA.out q (by omega)
      have NX := Lib.hid nxt
      clear hE hx hfp nxt d0 d3 d4 d5 d6 d7
      by_cases h1 : x.kind = k
      · have z1 : (x.kind == k) = true := by rw [h1]; exact beq_self_eq_true k
        by_cases h2 : x.a = a
        · have z2 : (x.a == a) = true := by rw [h2]; exact beq_self_eq_true a
          have hf : findN X k a = some i := findN_some hlt (by rw [HFP.out]; exact decide_eq_true ⟨h1, h2⟩) HA.out
          have hr : R = (i : Int) := by rw [← HR.out, hf]; rfl
          have HRR := Lib.hid hr
          clear h1 h2 hf hr
          go_wp2
          rw [HRR.out]
          go_ret
          exact ⟨rfl, hBr⟩
        · have z2 : (x.a == a) = false := beq_eq_false_iff_ne.2 h2
          have hn := NX.out (by rw [HFP.out]; exact decide_eq_false (fun h => h2 h.2))
          have HN := Lib.hid hn
          clear h1 h2 hn
          go_wp2
          go_roundg (gk - 1)
          case measure => omega
          case rel => exact ⟨hBr, i + 1, by first | rfl | go_num, by omega, HN.out⟩
      · have z1 : (x.kind == k) = false := beq_eq_false_iff_ne.2 h1
        have hn := NX.out (by rw [HFP.out]; exact decide_eq_false (fun h => h1 h.1))
        have HN := Lib.hid hn
        clear h1 hn
        go_wp2
        go_roundg (gk - 1)
        case measure => omega
        case rel => exact ⟨hBr, i + 1, by first | rfl | go_num, by omega, HN.out⟩
    · obtain rfl : i = X.length := by omega
      have hr : R = -1 := by rw [← HR.out, findN_none HA.out]; rfl
      have HRR := Lib.hid hr
      clear hr
      go_wp2
      rw [HRR.out]
      go_ret
      exact ⟨rfl, hBr⟩
theorem infoIn : (Tryz.prog.info? 3).map (fun i => (i.zero, i.size, i.bytes)) = some (some (.int .i64 0), 1, 8) := by kernel_rfl
theorem chain_len {D : Int → Option En} {L : List Int} (hL : ∀ p x, D p = some x → p ∈ L) {p : Int} {met : List Int} {r : List (Int × Bool)} (h : Chain D p met r) : r.length ≤ left L met + 2 := by
  induction h with
  | stop _ => simp
  | circle _ _ => simp
  | step h1 h2 h3 ih =>
    rename_i p met x r
    by_cases hx : x.b ∈ L
    · have := left_lt hx h2
      simp only [List.length_cons]; omega
    · have hd : D x.b = none := by
        cases hd : D x.b with
        | none => rfl
        | some y => exact absurd (hL _ _ hd) hx
      cases h3 with
      | stop _ => simp
      | circle h4 _ => rw [hd] at h4; cases h4
      | step h4 _ _ => rw [hd] at h4; cases h4
set_option maxRecDepth 100000 in
set_option maxHeartbeats 8000000 in
theorem r34asked_any (X : List En) (v : Value) (p0 : Int) (w : World) (h : SlE w w.heap.size v X) (hl : X.length ≤ 1024) (hu : ∀ q i, findN X 2 q = some i → deskL X 2 q = some (X.getD i default)) :
    Calls Tryz.prog 101 #[v, .int .i64 p0] w fun e w' => ∃ x P, e = .returned (.tuple #[x, .bool (endL X p0).2]) ∧ SlI w' w'.heap.size x P ∧ P.getLast? = some (endL X p0).1 ∧ P.length ≤ 2000 ∧ Below w.heap.size w w' := by
  obtain ⟨i0, hi, hz0, hz1, hz2⟩ := info_parts infoIn
  obtain ⟨r0, hch, hlast⟩ := chain_desk X p0
  have hlen := chain_len (fun p x h => deskL_mem X 2 p x h) hch
  have hl2 : left (X.map (·.a)) [p0] ≤ X.length := by have := left_len (X.map (·.a)) [p0]; rwa [List.length_map] at this
  have hn0 : r0.length ≤ 1026 := by omega
  obtain ⟨Q, hQ⟩ : ∃ Q, endL X p0 = Q := ⟨_, rfl⟩
  rw [hQ] at hlast ⊢
  have HS := Lib.hid h
  have HU := Lib.hid hu
  have hfi := fun (a : Int) (W : World) (hb : Below w.heap.size w W) => r34find_any X v 2 a W ((h.below hb).mono hb.size) (by omega)
  have HF := Lib.hid hfi
  obtain ⟨_, A, c, rfl, _⟩ := h
  have hB0 := (Below.refl w.heap.size w).alloc (Nat.le_refl _) (.cells #[.int .i64 p0] 3)
  have hO0 : (w.alloc (.cells #[.int .i64 p0] 3)).ownsRow w.heap.size 3 1 (.slice (some ⟨w.heap.size, 0, none⟩) 1 1) 1 [.int .i64 p0] :=
    ⟨rfl, .inr ⟨w.heap.size, 1, #[.int .i64 p0], rfl, Nat.le_refl _, Row.new w 3 [.int .i64 p0], Nat.le_refl _, by unfold maxLen; omega, rfl, rfl⟩⟩
  have HC := Lib.hid hch
  have HLA := Lib.hid hlast
  clear hfi hu hch hlast hlen hl2 hQ
  go_enter Tryz.func101, Tryz.ntmps101
  go_wp2_with (go_at_call 102; (with_reducible refine (HF.out _ _ hB0).mono ?_); rintro e w1 ⟨rfl, hb1⟩)
  have hB1 := hB0.trans (hb1.mono hB0.size)
  have hO1 := hO0.kept (grown_below' hb1 none) (.inr (by simp [Value.ownBlock]))
  clear hB0 hO0 hb1
  go_loopg [6, 7] r0.length (fun g xv iv wr => ∃ (p : Int) (met P : List Int) (r : List (Int × Bool)), iv = .int .i64 (optZ (findN X 2 p)) ∧ r.length = g ∧ Chain (deskL X 2) p met r ∧ (∀ z, z ∈ met ↔ z ∈ P) ∧ P.getLast? = some p ∧ r.getLast? = some Q ∧ P.length + r.length = r0.length + 1 ∧ Below w.heap.size w wr ∧ wr.ownsRow w.heap.size 3 1 xv P.length (P.flatMap Fk.encI))
  case atStart => exact ⟨p0, [p0], [p0], r0, rfl, rfl, HC.out, fun z => Iff.rfl, rfl, HLA.out, by simp; omega, hB1, hO1⟩
  case round =>
    clear hB1 hO1
    obtain ⟨p, met, P, r, rfl, hg, hc, hmp, hPl, hrl, hn, hBr, hown⟩ := hrel
    obtain ⟨xo, rfl⟩ : ∃ xo : Value, xo = u6 := ⟨_, rfl⟩
    have hPn : P.length ≤ 1027 := by omega
    have hsl : SlI wr wr.heap.size xo P := own_slG hown (fun _ => rfl) rfl (by omega)
    have HSL := Lib.hid hsl
    have HO := Lib.hid hown
    have HPL := Lib.hid hPl
    cases hf : findN X 2 p with
    | none =>
      have hd : deskL X 2 p = none := by
        have := desk_isSome X 2 p
        rw [hf] at this
        cases hd : deskL X 2 p with
        | none => rfl
        | some m => rw [hd] at this; cases this
      have hq : Q = (p, false) := by
        cases hc with
        | stop _ => cases hrl; rfl
        | circle h4 _ => rw [hd] at h4; cases h4
        | step h4 _ _ => rw [hd] at h4; cases h4
      have e0 : optZ (none : Option Nat) = -1 := rfl
      rw [e0]
      have HQ := Lib.hid hq
      clear hf hd hq hc hmp hPl hrl hown hsl
      go_wp2
      rw [HQ.out]
      go_ret2
      exact ⟨_, P, rfl, HSL.out, HPL.out, by omega, hBr⟩
    | some i =>
      have hd := HU.out p i hf
      obtain ⟨hix, _, _⟩ := findN_is hf
      have e0 : optZ (some i) = (i : Int) := rfl
      rw [e0]
      obtain ⟨b, off, c', hv, hb, hE⟩ := ent_at (HS.out.below hBr) hix
      cases hv
      have ex := hE i hix
      obtain ⟨x, hx⟩ : ∃ x, X.getD i default = x := ⟨_, rfl⟩
      rw [hx] at ex hd
      have EX := Lib.hid ex
      obtain ⟨d0, d1, d2, d3, d4, d5, d6, d7⟩ := ex
      have hbr : b < wr.heap.size := by have := hBr.size; omega
      have s1 : (0 : Int) ≤ i := by omega
      have s2 : (i : Int) < X.length := by omega
      have hhas := r25has_any P xo x.b wr hsl (by omega)
      by_cases hm : x.b ∈ P
      · rw [decide_eq_true hm] at hhas
        have hq : Q = (p, true) := by
          cases hc with
          | stop h4 => rw [hd] at h4; cases h4
          | circle _ _ => cases hrl; rfl
          | step h4 h5 _ => rw [hd] at h4; cases h4; exact absurd ((hmp _).2 hm) h5
        have HQ := Lib.hid hq
        have HH := Lib.hid hhas
        clear hf hd hq hc hmp hPl hrl hown hsl hm hhas hx hE d0 d1 d2 d4 d5 d6 d7
        go_wp2_with (go_at_call 138; (with_reducible refine HH.out.mono ?_); rintro e w2 ⟨rfl, hb2⟩)
        rw [HQ.out]
        go_ret2
        exact ⟨_, P, rfl, (HSL.out.below hb2).mono hb2.size, HPL.out, by omega, hBr.trans (hb2.mono hBr.size)⟩
      · rw [decide_eq_false hm] at hhas
        obtain ⟨r', hr', hc'⟩ : ∃ r', r = (p, false) :: r' ∧ Chain (deskL X 2) x.b (x.b :: met) r' := by
          cases hc with
          | stop h4 => rw [hd] at h4; cases h4
          | circle h4 h5 => rw [hd] at h4; cases h4; exact absurd ((hmp _).1 h5) hm
          | step h4 h5 h6 => rw [hd] at h4; cases h4; exact ⟨_, rfl, h6⟩
        have hrl' : r'.getLast? = some Q := by
          rw [hr', List.getLast?_cons] at hrl
          cases hq : r'.getLast? with
          | none =>
            have : r' = [] := List.getLast?_eq_none_iff.1 hq
            rw [this] at hc'; cases hc'
          | some q => rw [hq] at hrl; exact hrl
        have HH := Lib.hid hhas
        have HCC := Lib.hid hc'
        have HRL := Lib.hid hrl'
        have HMP := Lib.hid hmp
        have hrn : r'.length + 1 = gk := by rw [← hg, hr']; rfl
        have hrn2 : P.length + (r'.length + 1) = r0.length + 1 := by rw [← hn, hr']; rfl
        have hszr := hBr.size
        have hE3 : ∀ W, Below w.heap.size w W → EntAt W b (off + i * 8) x := fun W hW => by
          obtain ⟨b2, off2, c2, hv2, hb2, hE2⟩ := ent_at (HS.out.below hW) hix
          cases hv2
          rw [← hx]; exact hE2 i hix
        clear hf hd hc hmp hPl hrl hrl' hc' hr' hown hsl hm hhas hx hE d0 d1 d2 d4 d5 d6 d7 hg hn
        go_wp2_with (first
          | (go_at_call 138; (with_reducible refine HH.out.mono ?_); rintro e w2 ⟨rfl, hb2⟩; have hB2 := hBr.trans (hb2.mono hBr.size); have hsz2 := hb2.size; obtain ⟨d0, d1, d2, d3, d4, d5, d6, d7⟩ := EX.out.below hb2 hbr; have hO2 := HO.out.kept (grown_below' hb2 (some wr.heap.size)) (.inr (fun e => by have := (HO.out.lt _ e).2; omega)))
          | (at_builtin; go_loud (refine wpList_append_own _ rfl _ _ 25 rfl w.heap.size 3 i0 (.int .i64 0) 1 8 Tryz.underlying25 hi hz0 hz1 hz2 rfl (by decide) _ _ _ rfl (hO2.alloc _) ⟨w2.heap.size, 0, none⟩ 1 1 [.int .i64 x.b] rfl rfl (cells_new w2 3 [.int .i64 x.b]) (by simp [Value.oneCell']) (by unfold maxLen; omega) (by omega) (by simp; omega) ?_; intro v' w3 hown' hgrow _; have hB3 := (hB2.alloc hB2.size (.cells #[.int .i64 x.b] 3)).grown hgrow (by simp; omega) (fun r e => (hO2.lt r e).1); obtain ⟨d0, d1, d2, d3, d4, d5, d6, d7⟩ := (show EntAt w3 b (off + i * 8) x from (hE3 w3 hB3))))
          | (go_at_call 102; (with_reducible refine (HF.out _ _ hB3).mono ?_); rintro e w4 ⟨rfl, hb4⟩))
        go_roundg (gk - 1)
        case measure => omega
        case rel =>
          refine ⟨x.b, x.b :: met, P ++ [x.b], r', rfl, by omega, HCC.out, fun z => ?_, by simp, HRL.out, by simp; omega, hB3.trans (hb4.mono hB3.size), ?_⟩
          · rw [List.mem_cons, List.mem_append, List.mem_singleton, HMP.out z]; exact Or.comm
          · rw [List.length_append, List.flatMap_append]
            exact hown'.kept (grown_below' hb4 (some w3.heap.size)) (.inr (fun e => by have := (hown'.lt _ e).2; omega))
end Go.Proofs.YthckledagggoiaaGreatDoor

set_option linter.unusedSimpArgs false
set_option linter.unusedVariables false
namespace Go.Proofs.YthckledagggoiaaGreatDoor
open Go.RowKit Fk
/-! The reference's homes: Where; Lives. -/
theorem ret_rwhere (tmps : Array Value) (W : World) (g : Nat) (k q o E : Int) (h8 : tmps[8]?.getD undef = .pointer (some ⟨g, 0, none⟩)) (h9 : tmps[9]?.getD undef = .int .i64 E) (hr : Row W g 30 [.int .i64 k, .int .i64 q, .int .i64 o]) :
    (results Tryz.f45 tmps).run Tryz.prog W = .ok (.tuple #[homeV k q o, .int .i64 E]) W := by
  obtain ⟨m0, m1, m2⟩ := st3h hr
  simp [results, Tryz.f45, go_sem, h8, h9, m0, m1, m2]
theorem rw_post {w X : World} {R : Int × Int × Int} {E : Int} (tmps : Array Value) (k q o : Int) (hR : R = (k, q, o)) (h8 : tmps[8]?.getD undef = .pointer (some ⟨w.heap.size, 0, none⟩)) (h9 : tmps[9]?.getD undef = .int .i64 E)
    (hX : Below w.heap.size w X) (hr : Row X w.heap.size 30 [.int .i64 0, .int .i64 0, .int .i64 0]) :
    bodyPost Tryz.prog Tryz.f45 (fun e w' => e = .returned (.tuple #[hv R, .int .i64 E]) ∧ Below w.heap.size w w') .ret { tmps := tmps, defers := [] }
      (((X.setCell ⟨w.heap.size, 0, none⟩ (.int .i64 k)).setCell ⟨w.heap.size, 1, none⟩ (.int .i64 q)).setCell ⟨w.heap.size, 2, none⟩ (.int .i64 o)) := by
  subst hR
  exact bodyPost_ret (ret_rwhere tmps _ w.heap.size k q o E h8 h9 (((hr.store 0 (.int .i64 k)).store 1 (.int .i64 q)).store 2 (.int .i64 o))) rfl ⟨rfl, ((hX.setCell (p := ⟨w.heap.size, 0, none⟩) (by simp) _).setCell (p := ⟨w.heap.size, 1, none⟩) (by simp) _).setCell (p := ⟨w.heap.size, 2, none⟩) (by simp) _⟩
theorem last_at {w : World} {B0 : Nat} {v : Value} {P : List Int} {q : Int} (h : SlI w B0 v P) (hl : P.getLast? = some q) : ∃ b o c k, v = .slice (some ⟨b, o, none⟩) (k + 1) c ∧ P.length = k + 1 ∧ b < B0 ∧ w.cell? ⟨b, o + k, none⟩ = some (.int .i64 q) := by
  have hp : 0 < P.length := by
    cases P with
    | nil => simp at hl
    | cons a r => simp
  obtain ⟨k, hk⟩ : ∃ k, P.length = k + 1 := ⟨P.length - 1, by omega⟩
  obtain ⟨_, A, c, rfl, hE⟩ := h
  obtain ⟨b, o, rfl, hb, hE⟩ := hE hp
  refine ⟨b, o, c, k, by rw [hk], hk, hb, ?_⟩
  have := hE.int (i := k) (by omega)
  rw [this, List.getD_eq_getElem?_getD]
  rw [List.getLast?_eq_getElem?, hk] at hl
  rw [show k + 1 - 1 = k by omega] at hl
  rw [hl]; rfl
theorem optZ_some (o : Option Nat) : decide (0 ≤ optZ o) = o.isSome := by
  cases o with
  | none => rfl
  | some k => exact decide_eq_true (show (0 : Int) ≤ (k : Int) by omega)
set_option maxRecDepth 100000 in
set_option maxHeartbeats 4000000 in
theorem r34where_none (l : List En) (v : Value) (person day time : Int) (w : World) (h : SlE w w.heap.size v l) (hs : openE l person day time ≠ 0) :
    Calls Tryz.prog 45 #[v, .int .i64 person, .int .i64 day, .int .i64 time] w fun e w' => e = .returned (.tuple #[hv (0, 0, 0), .int .i64 (openE l person day time)]) ∧ Below w.heap.size w w' := by
  have hB0 := (Below.refl w.heap.size w).alloc (Nat.le_refl _) (.cells #[.int .i64 0, .int .i64 0, .int .i64 0] 30)
  have hR0 := Row.new w 30 [.int .i64 0, .int .i64 0, .int .i64 0]
  have hst := fun (W : World) (hb : Below w.heap.size w W) => r33stand_any l v day time W ((h.below hb).mono hb.size)
  by_cases hc : stE l day time = 0
  · have e1 : openE l person day time = 1 := by
      cases hi : idB person with
      | true => exact absurd (openE_0 hc hi) hs
      | false => exact openE_1 hc hi
    have hp : person < 0 ∨ ¬ person < 0 ∧ 1048576 < person := by
      by_cases h0 : person < 0
      · exact .inl h0
      · refine .inr ⟨h0, ?_⟩
        by_cases h1 : 1048576 < person
        · exact h1
        · exact absurd (openE_0 hc (by unfold idB; simp only [Bool.and_eq_true, decide_eq_true_eq]; omega)) hs
    rw [e1]
    rw [hc] at hst
    have HST := Lib.hid hst
    have HR0 := Lib.hid hR0
    clear hst hc e1 hs h hR0
    rcases hp with h0 | ⟨h0, h1⟩
    · have f1 : decide (person < 0) = true := decide_eq_true h0
      clear h0
      go_enter Tryz.func45, Tryz.ntmps45
      go_wp2_with (go_at_call 79; (with_reducible refine (HST.out _ hB0).mono ?_); rintro e w1 ⟨⟨xv, rfl, hx⟩, hb1⟩; have hB1 := hB0.trans (hb1.mono hB0.size); have r8 := HR0.out.below hb1 (by simp); obtain ⟨m0, m1, m2⟩ := st3h r8; have ff := fun i => Row.frozen r8 i; obtain ⟨hq1, A1, c1, rfl, hq2⟩ := hx)
      exact rw_post _ 0 0 0 rfl rfl rfl hB1 r8
    · have f1 : decide (person < 0) = false := decide_eq_false h0
      have f2 : decide (1048576 < person) = true := decide_eq_true h1
      clear h0 h1
      go_enter Tryz.func45, Tryz.ntmps45
      go_wp2_with (go_at_call 79; (with_reducible refine (HST.out _ hB0).mono ?_); rintro e w1 ⟨⟨xv, rfl, hx⟩, hb1⟩; have hB1 := hB0.trans (hb1.mono hB0.size); have r8 := HR0.out.below hb1 (by simp); obtain ⟨m0, m1, m2⟩ := st3h r8; have ff := fun i => Row.frozen r8 i; obtain ⟨hq1, A1, c1, rfl, hq2⟩ := hx)
      exact rw_post _ 0 0 0 rfl rfl rfl hB1 r8
  · have e1 : openE l person day time = stE l day time := openE_s hc
    rw [e1]
    obtain ⟨E, hE⟩ : ∃ E, stE l day time = E := ⟨_, rfl⟩
    rw [hE] at hst hc ⊢
    have f1 : (E != 0) = true := bne_iff_ne.2 hc
    have HST := Lib.hid hst
    have HR0 := Lib.hid hR0
    clear hst hc e1 hs h hR0 hE
    go_enter Tryz.func45, Tryz.ntmps45
    go_wp2_with (go_at_call 79; (with_reducible refine (HST.out _ hB0).mono ?_); rintro e w1 ⟨⟨xv, rfl, hx⟩, hb1⟩; have hB1 := hB0.trans (hb1.mono hB0.size); have r8 := HR0.out.below hb1 (by simp); obtain ⟨m0, m1, m2⟩ := st3h r8; have ff := fun i => Row.frozen r8 i; obtain ⟨hq1, A1, c1, rfl, hq2⟩ := hx)
    exact rw_post _ 0 0 0 rfl rfl rfl hB1 r8
set_option maxRecDepth 100000 in
set_option maxHeartbeats 8000000 in
theorem r34where_some (l : List En) (v : Value) (person day time : Int) (w : World) (h : SlE w w.heap.size v l) (hs : openE l person day time = 0) :
    Calls Tryz.prog 45 #[v, .int .i64 person, .int .i64 day, .int .i64 time] w fun e w' => e = .returned (.tuple #[hv (whereH l person day time), .int .i64 0]) ∧ Below w.heap.size w w' := by
  have hB0 := (Below.refl w.heap.size w).alloc (Nat.le_refl _) (.cells #[.int .i64 0, .int .i64 0, .int .i64 0] 30)
  have hR0 := Row.new w 30 [.int .i64 0, .int .i64 0, .int .i64 0]
  have hst := fun (W : World) (hb : Below w.heap.size w W) => r33stand_any l v day time W ((h.below hb).mono hb.size)
  have hc : stE l day time = 0 := by
    by_cases hc : stE l day time = 0
    · exact hc
    · rw [openE_s hc] at hs; exact absurd hs hc
  have hp : 0 ≤ person ∧ person ≤ 1048576 := by
    cases hi : idB person with
    | true => unfold idB at hi; simpa only [Bool.and_eq_true, decide_eq_true_eq] using hi
    | false => rw [openE_1 hc hi] at hs; cases hs
  rw [hc] at hst
  have e0 : whereH l person day time = whereD (deskL (standX l day time)) person (endL (standX l day time) person) := by unfold whereH; rw [if_pos hs]
  have hlen := standX_len l day time
  have hu := fun q i (h : findN (standX l day time) 2 q = some i) => desk_find (l := l) (day := day) (time := time) (.inr rfl) h
  have hu1 := fun q i (h : findN (standX l day time) 1 q = some i) => desk_find (l := l) (day := day) (time := time) (.inl rfl) h
  obtain ⟨X, hX⟩ : ∃ X, standX l day time = X := ⟨_, rfl⟩
  rw [hX] at hst e0 hlen hu hu1
  obtain ⟨⟨qp, qc⟩, hQ⟩ : ∃ Q, endL X person = Q := ⟨_, rfl⟩
  rw [hQ] at e0
  have has := fun (x : Value) (W : World) (hx : SlE W W.heap.size x X) => r34asked_any X x person W hx hlen hu
  rw [hQ] at has
  have hfn := fun (k : Int) (x : Value) (W : World) (hx : SlE W W.heap.size x X) => r34find_any X x k qp W hx (by omega)
  have f1 : decide (person < 0) = false := decide_eq_false (by omega)
  have f2 : decide (1048576 < person) = false := decide_eq_false (by omega)
  have i3 := desk_isSome X 3 qp
  have i4 := desk_isSome X 4 qp
  have i1 := desk_isSome X 1 qp
  have o3 := optZ_some (findN X 3 qp)
  have o4 := optZ_some (findN X 4 qp)
  rw [e0]
  unfold whereD
  simp only [i3, i4, i1]
  have hlk : ∀ i, findN X 1 qp = some i → (deskL X 1 qp).getD zeroE = X.getD i default := fun i hi => by rw [hu1 qp i hi]; rfl
  have HLK := Lib.hid hlk
  have HST := Lib.hid hst
  have HR0 := Lib.hid hR0
  have HAS := Lib.hid has
  have HFN := Lib.hid hfn
  clear hst hc hs h hR0 e0 hu hu1 hX hQ has hfn hp i1 i3 i4 hlk
  cases qc with
  | true =>
    rw [if_pos rfl]
    go_enter Tryz.func45, Tryz.ntmps45
    go_wp2_with (first
      | (go_at_call 79; (with_reducible refine (HST.out _ hB0).mono ?_); rintro e w1 ⟨⟨xv, rfl, hx⟩, hb1⟩; have hB1 := hB0.trans (hb1.mono hB0.size); have r8 := HR0.out.below hb1 (by simp); have HX1 := Lib.hid hx; obtain ⟨hq1, A1, c1, rfl, hq2⟩ := hx; clear hq1 hq2)
      | (go_at_call 101; (with_reducible refine (HAS.out _ _ HX1.out).mono ?_); rintro e w2 ⟨ya, P, rfl, hy, hpl, hpn, hb2⟩; have hB2 := hB1.trans (hb2.mono hB1.size); have r9 := r8.below hb2 r8.lt; obtain ⟨m0, m1, m2⟩ := st3h r9; have ff := fun i => Row.frozen r9 i; clear hy hpl))
    exact rw_post _ 2 person 0 rfl rfl rfl hB2 r9
  | false =>
    rw [if_neg (by decide)]
    obtain ⟨z3, hz3⟩ : ∃ z, optZ (findN X 3 qp) = z := ⟨_, rfl⟩
    obtain ⟨z4, hz4⟩ : ∃ z, optZ (findN X 4 qp) = z := ⟨_, rfl⟩
    obtain ⟨s3, hs3⟩ : ∃ z, (findN X 3 qp).isSome = z := ⟨_, rfl⟩
    obtain ⟨s4, hs4⟩ : ∃ z, (findN X 4 qp).isSome = z := ⟨_, rfl⟩
    rw [hz3, hs3] at o3
    rw [hz4, hs4] at o4
    rw [hs3, hs4]
    have n3 := fun x W hx => by have := HFN.out 3 x W hx; rw [hz3] at this; exact this
    have n4 := fun x W hx => by have := HFN.out 4 x W hx; rw [hz4] at this; exact this
    have HN3 := Lib.hid n3
    have HN4 := Lib.hid n4
    clear n3 n4 hz3 hz4 hs3 hs4
    cases s3 with
    | true =>
      rw [Bool.true_or, if_pos rfl]
      go_enter Tryz.func45, Tryz.ntmps45
      go_wp2_with (first
        | (go_at_call 79; (with_reducible refine (HST.out _ hB0).mono ?_); rintro e w1 ⟨⟨xv, rfl, hx⟩, hb1⟩; have hB1 := hB0.trans (hb1.mono hB0.size); have r8 := HR0.out.below hb1 (by simp); have HX1 := Lib.hid hx; obtain ⟨hq1, A1, c1, rfl, hq2⟩ := hx; clear hq1 hq2)
        | (go_at_call 101; go_loud ((with_reducible refine (HAS.out _ _ HX1.out).mono ?_); rintro e w2 ⟨ya, P, rfl, hy, hpl, hpn, hb2⟩; have hB2 := hB1.trans (hb2.mono hB1.size); have r9 := r8.below hb2 r8.lt; have hX2 := (HX1.out.below hb2).mono hb2.size; have HX2 := Lib.hid hX2; obtain ⟨bP, oP, cP, kP, rfl, hkP, hbP, dP⟩ := last_at hy hpl; have t1 : (((kP + 1 : Nat) : Int)) - 1 = (kP : Int) := (by omega); have t2 : (0 : Int) ≤ (kP : Int) := (by omega); have t3 : (kP : Int) < ((kP + 1 : Nat) : Int) := (by omega); have t4 : ((kP : Int)).toNat = kP := (by omega); have t5 : kP ≤ 2000 := (by omega); clear hX2 hpl hpn hy))
        | (go_at_call 102; (with_reducible refine (HN3.out _ _ HX2.out).mono ?_); rintro e w3 ⟨rfl, hb3⟩; have hB3 := hB2.trans (hb3.mono hB2.size); have r10 := r9.below hb3 r9.lt; have HX3 := Lib.hid ((HX2.out.below hb3).mono hb3.size); obtain ⟨m0, m1, m2⟩ := st3h r10; have ff := fun i => Row.frozen r10 i))
      exact rw_post _ 3 qp 0 rfl rfl rfl hB3 r10
    | false =>
      rw [Bool.false_or]
      cases s4 with
      | true =>
        rw [if_pos rfl]
        go_enter Tryz.func45, Tryz.ntmps45
        go_wp2_with (first
          | (go_at_call 79; (with_reducible refine (HST.out _ hB0).mono ?_); rintro e w1 ⟨⟨xv, rfl, hx⟩, hb1⟩; have hB1 := hB0.trans (hb1.mono hB0.size); have r8 := HR0.out.below hb1 (by simp); have HX1 := Lib.hid hx; obtain ⟨hq1, A1, c1, rfl, hq2⟩ := hx; clear hq1 hq2)
          | (go_at_call 101; go_loud ((with_reducible refine (HAS.out _ _ HX1.out).mono ?_); rintro e w2 ⟨ya, P, rfl, hy, hpl, hpn, hb2⟩; have hB2 := hB1.trans (hb2.mono hB1.size); have r9 := r8.below hb2 r8.lt; have hX2 := (HX1.out.below hb2).mono hb2.size; have HX2 := Lib.hid hX2; obtain ⟨bP, oP, cP, kP, rfl, hkP, hbP, dP⟩ := last_at hy hpl; have t1 : (((kP + 1 : Nat) : Int)) - 1 = (kP : Int) := (by omega); have t2 : (0 : Int) ≤ (kP : Int) := (by omega); have t3 : (kP : Int) < ((kP + 1 : Nat) : Int) := (by omega); have t4 : ((kP : Int)).toNat = kP := (by omega); have t5 : kP ≤ 2000 := (by omega); clear hX2 hpl hpn hy))
          | (go_at_call 102; (with_reducible refine (HN3.out _ _ HX2.out).mono ?_); rintro e w3 ⟨rfl, hb3⟩; have hB3 := hB2.trans (hb3.mono hB2.size); have r10 := r9.below hb3 r9.lt; have HX3 := Lib.hid ((HX2.out.below hb3).mono hb3.size); obtain ⟨m0, m1, m2⟩ := st3h r10; have ff := fun i => Row.frozen r10 i)
          | (go_at_call 102; (with_reducible refine (HN4.out _ _ HX3.out).mono ?_); rintro e w4 ⟨rfl, hb4⟩; have hB4 := hB3.trans (hb4.mono hB3.size); have r11 := r10.below hb4 r10.lt; have HX4 := Lib.hid ((HX3.out.below hb4).mono hb4.size); obtain ⟨m0, m1, m2⟩ := st3h r11; have ff := fun i => Row.frozen r11 i))
        exact rw_post _ 3 qp 0 rfl rfl rfl hB4 r11
      | false =>
        rw [if_neg (by decide)]
        cases hf : findN X 1 qp with
        | none =>
          rw [if_neg (by simp)]
          have n1 := fun x W hx => by have := HFN.out 1 x W hx; rw [hf] at this; exact this
          rw [show optZ (none : Option Nat) = -1 from rfl] at n1
          have HN1 := Lib.hid n1
          clear n1 hf
          go_enter Tryz.func45, Tryz.ntmps45
          go_wp2_with (first
            | (go_at_call 79; (with_reducible refine (HST.out _ hB0).mono ?_); rintro e w1 ⟨⟨xv, rfl, hx⟩, hb1⟩; have hB1 := hB0.trans (hb1.mono hB0.size); have r8 := HR0.out.below hb1 (by simp); have HX1 := Lib.hid hx; obtain ⟨hq1, A1, c1, rfl, hq2⟩ := hx; clear hq1 hq2)
            | (go_at_call 101; go_loud ((with_reducible refine (HAS.out _ _ HX1.out).mono ?_); rintro e w2 ⟨ya, P, rfl, hy, hpl, hpn, hb2⟩; have hB2 := hB1.trans (hb2.mono hB1.size); have r9 := r8.below hb2 r8.lt; have hX2 := (HX1.out.below hb2).mono hb2.size; have HX2 := Lib.hid hX2; obtain ⟨bP, oP, cP, kP, rfl, hkP, hbP, dP⟩ := last_at hy hpl; have t1 : (((kP + 1 : Nat) : Int)) - 1 = (kP : Int) := (by omega); have t2 : (0 : Int) ≤ (kP : Int) := (by omega); have t3 : (kP : Int) < ((kP + 1 : Nat) : Int) := (by omega); have t4 : ((kP : Int)).toNat = kP := (by omega); have t5 : kP ≤ 2000 := (by omega); clear hX2 hpl hpn hy))
            | (go_at_call 102; (with_reducible refine (HN3.out _ _ HX2.out).mono ?_); rintro e w3 ⟨rfl, hb3⟩; have hB3 := hB2.trans (hb3.mono hB2.size); have r10 := r9.below hb3 r9.lt; have HX3 := Lib.hid ((HX2.out.below hb3).mono hb3.size); obtain ⟨m0, m1, m2⟩ := st3h r10; have ff := fun i => Row.frozen r10 i)
            | (go_at_call 102; (with_reducible refine (HN4.out _ _ HX3.out).mono ?_); rintro e w4 ⟨rfl, hb4⟩; have hB4 := hB3.trans (hb4.mono hB3.size); have r11 := r10.below hb4 r10.lt; have HX4 := Lib.hid ((HX3.out.below hb4).mono hb4.size); obtain ⟨m0, m1, m2⟩ := st3h r11; have ff := fun i => Row.frozen r11 i)
            | (go_at_call 102; (with_reducible refine (HN1.out _ _ HX4.out).mono ?_); rintro e w5 ⟨rfl, hb5⟩; have hB5 := hB4.trans (hb5.mono hB4.size); have r12 := r11.below hb5 r11.lt; have HX5 := Lib.hid ((HX4.out.below hb5).mono hb5.size); obtain ⟨m0, m1, m2⟩ := st3h r12; have ff := fun i => Row.frozen r12 i))
          exact rw_post _ 2 qp 0 rfl rfl rfl hB5 r12
        | some i =>
          rw [if_pos (show (some i).isSome = true from rfl), HLK.out i hf]
          obtain ⟨hix, _, _⟩ := findN_is hf
          have n1 := fun x W hx => by have := HFN.out 1 x W hx; rw [hf] at this; exact this
          rw [show optZ (some i) = (i : Int) from rfl] at n1
          have HN1 := Lib.hid n1
          obtain ⟨x, hx⟩ : ∃ x, X.getD i default = x := ⟨_, rfl⟩
          rw [hx]
          have HX := Lib.hid hx
          have s1 : (0 : Int) ≤ i := by omega
          have s2 : (i : Int) < X.length := by omega
          clear n1 hf hx
          go_enter Tryz.func45, Tryz.ntmps45
          go_wp2_with (first
            | (go_at_call 79; (with_reducible refine (HST.out _ hB0).mono ?_); rintro e w1 ⟨⟨xv, rfl, hx⟩, hb1⟩; have hB1 := hB0.trans (hb1.mono hB0.size); have r8 := HR0.out.below hb1 (by simp); have HX1 := Lib.hid hx; obtain ⟨bE, oE, cE, rfl, hbE, hEE⟩ := ent_at hx hix; have ek := hEE i hix; rw [HX.out] at ek; have EK := Lib.hid ek; clear hx hEE ek)
            | (go_at_call 101; go_loud ((with_reducible refine (HAS.out _ _ HX1.out).mono ?_); rintro e w2 ⟨ya, P, rfl, hy, hpl, hpn, hb2⟩; have hB2 := hB1.trans (hb2.mono hB1.size); have r9 := r8.below hb2 r8.lt; have hX2 := (HX1.out.below hb2).mono hb2.size; have HX2 := Lib.hid hX2; obtain ⟨bP, oP, cP, kP, rfl, hkP, hbP, dP⟩ := last_at hy hpl; have t1 : (((kP + 1 : Nat) : Int)) - 1 = (kP : Int) := (by omega); have t2 : (0 : Int) ≤ (kP : Int) := (by omega); have t3 : (kP : Int) < ((kP + 1 : Nat) : Int) := (by omega); have t4 : ((kP : Int)).toNat = kP := (by omega); have t5 : kP ≤ 2000 := (by omega); clear hX2 hpl hpn hy))
            | (go_at_call 102; (with_reducible refine (HN3.out _ _ HX2.out).mono ?_); rintro e w3 ⟨rfl, hb3⟩; have hB3 := hB2.trans (hb3.mono hB2.size); have r10 := r9.below hb3 r9.lt; have HX3 := Lib.hid ((HX2.out.below hb3).mono hb3.size); obtain ⟨m0, m1, m2⟩ := st3h r10; have ff := fun i => Row.frozen r10 i)
            | (go_at_call 102; (with_reducible refine (HN4.out _ _ HX3.out).mono ?_); rintro e w4 ⟨rfl, hb4⟩; have hB4 := hB3.trans (hb4.mono hB3.size); have r11 := r10.below hb4 r10.lt; have HX4 := Lib.hid ((HX3.out.below hb4).mono hb4.size); obtain ⟨m0, m1, m2⟩ := st3h r11; have ff := fun i => Row.frozen r11 i)
            | (go_at_call 102; (with_reducible refine (HN1.out _ _ HX4.out).mono ?_); rintro e w5 ⟨rfl, hb5⟩; have hB5 := hB4.trans (hb5.mono hB4.size); have r12 := r11.below hb5 r11.lt; have HX5 := Lib.hid ((HX4.out.below hb5).mono hb5.size); obtain ⟨m0, m1, m2⟩ := st3h r12; have ff := fun i => Row.frozen r12 i; obtain ⟨d0, d1, d2, d3, d4, d5, d6, d7⟩ := EK.out.below (((hb2.trans (hb3.mono hb2.size)).trans (hb4.mono (Nat.le_trans hb2.size hb3.size))).trans (hb5.mono (Nat.le_trans hb2.size (Nat.le_trans hb3.size hb4.size)))) hbE))
          exact rw_post _ 1 qp x.b rfl rfl rfl hB5 r12
theorem r34where_any (l : List En) (v : Value) (person day time : Int) (w : World) (h : SlE w w.heap.size v l) :
    Calls Tryz.prog 45 #[v, .int .i64 person, .int .i64 day, .int .i64 time] w fun e w' => e = .returned (.tuple #[hv (whereH l person day time), .int .i64 (openE l person day time)]) ∧ Below w.heap.size w w' := by
  by_cases hs : openE l person day time = 0
  · rw [hs]; exact r34where_some l v person day time w h hs
  · have e : whereH l person day time = (0, 0, 0) := by unfold whereH; rw [if_neg hs]
    rw [e]; exact r34where_none l v person day time w h hs
end Go.Proofs.YthckledagggoiaaGreatDoor
