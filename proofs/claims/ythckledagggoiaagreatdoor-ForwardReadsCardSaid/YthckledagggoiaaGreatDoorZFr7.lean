import Derived.Test.YthckledagggoiaaGreatDoorZMs
import Derived.Test.YthckledagggoiaaGreatDoorZFtB
set_option linter.unusedSimpArgs false
set_option linter.unusedVariables false
namespace Go.Proofs.YthckledagggoiaaGreatDoor
open Go.RowKit Go.Shelf Fk Sha
/-! frankingref20.Few, frankingref36.Few. -/
def smallX (x : Lx) : Bool := decide (x.ol.length ≤ 20) && (decide (x.gl.length ≤ 20) && (decide (x.rl.length ≤ 20) && decide (x.pl.length ≤ 70)))
def few20 (l : List Lx) : Bool := if 6 < l.length then decide (64 < l.length) && decide (l.length ≤ 100) else allN l.length fun q => smallX (l.getD q default)
theorem calsE_all {l : List Lx} (h : calsE l = 0) (k : Nat) (hk : k < l.length) : calX (l.getD k default) = 0 := by
  induction k using Nat.strongRecOn with
  | _ k ih =>
    by_cases hc : calX (l.getD k default) = 0
    · exact hc
    · have := calsE_at hk hc (fun q hq => ih q hq (by omega))
      rw [h] at this
      exact this.symm
theorem smallX_no {x : Lx} (h : smallX x = false) : 20 < (x.ol.length : Int) ∨ (¬ 20 < (x.ol.length : Int) ∧ 20 < (x.gl.length : Int)) ∨ (¬ 20 < (x.ol.length : Int) ∧ ¬ 20 < (x.gl.length : Int) ∧ 20 < (x.rl.length : Int)) ∨ (¬ 20 < (x.ol.length : Int) ∧ ¬ 20 < (x.gl.length : Int) ∧ ¬ 20 < (x.rl.length : Int) ∧ 70 < (x.pl.length : Int)) := by
  unfold smallX at h
  simp only [Bool.and_eq_false_iff, decide_eq_false_iff_not] at h
  omega
theorem smallX_yes {x : Lx} (h : smallX x = true) : ¬ 20 < (x.ol.length : Int) ∧ ¬ 20 < (x.gl.length : Int) ∧ ¬ 20 < (x.rl.length : Int) ∧ ¬ 70 < (x.pl.length : Int) := by
  unfold smallX at h
  simp only [Bool.and_eq_true, decide_eq_true_eq] at h
  omega
set_option maxRecDepth 100000 in
set_option maxHeartbeats 8000000 in
theorem rfew_few (l : List Lx) (n : Int) (v : Value) (w : World) (h : SlX w w.heap.size v l) (hcap : capX l) (hl : l.length ≤ 6) :
    Calls Tryz.prog 35 #[ttV n v, .int .i64 0, .int .i64 0] w fun e w' => e = .returned (.bool (allN l.length fun q => smallX (l.getD q default))) ∧ Below w.heap.size w w' := by
  have HS := Lib.hid h
  have hck := fun (W : World) (hb : Below w.heap.size w W) => rtt_any l n v W (h.below hb) hcap
  have HCK := Lib.hid hck
  have H0 := Lib.hid (fun h0 => (ttE_0 (l := l) (n := n) h0))
  obtain ⟨⟨_, A, c, rfl, _⟩, _⟩ := h
  obtain ⟨E, hE⟩ : ∃ E, ttE l n = E := ⟨_, rfl⟩
  have f1 : decide (6 < (l.length : Int)) = false := decide_eq_false (by omega)
  have hB0 := below_alloc' w (.cells #[.int .i64 n, .slice A l.length c] 24)
  have r0 := Row.new w 24 [.int .i64 n, .slice A l.length c]
  have HEE := Lib.hid hE
  clear hck hE hcap
  obtain ⟨R, hR⟩ : ∃ R, (allN l.length fun q => smallX (l.getD q default)) = R := ⟨_, rfl⟩
  rw [hR]
  have HRR := Lib.hid hR
  clear hR
  go_enter Tryz.func35, Tryz.ntmps35
  go_wp2_with fail
  clear f1
  go_loopg [7] l.length (fun gg iv wr => ∃ k : Nat, iv = .int .i64 k ∧ k + gg = l.length ∧ Below w.heap.size w wr ∧ Row wr w.heap.size 24 [.int .i64 n, .slice A l.length c] ∧ Hid (∀ q, q < k → smallX (l.getD q default) = true))
  case atStart => exact ⟨0, rfl, by omega, hB0, r0, fun q hq => by omega⟩
  case round =>
    clear hB0 r0
    obtain ⟨k, rfl, hkg, hBr, hr0, HA⟩ := hrel
    have q0 := hr0.cell 0
    have q1 := hr0.cell 1
    have hlo := hr0.lt
    by_cases hlt : k < l.length
    · obtain ⟨_, A', c', hv, hE⟩ := (HS.out.below hBr).1
      obtain ⟨b, off, rfl, hbb, hE⟩ := hE (by omega)
      cases hv
      obtain ⟨d0, d1, d2, d3, d4, d5⟩ := cellsX hE hlt
      have hok := HS.out.2 k hlt
      obtain ⟨x, hx⟩ : ∃ x, l.getD k default = x := ⟨_, rfl⟩
      rw [hx] at d0 d1 d2 d3 d4 d5 hok
      have HX := Lib.hid hx
      have hno := fun (hs : smallX x = false) => allN_false (f := fun q => smallX (l.getD q default)) hlt (by rw [hx]; exact hs)
      have hyy := fun (hs : smallX x = true) => smallX_yes hs
      have hnn := fun (hs : smallX x = false) => smallX_no hs
      obtain ⟨ov, gv, cl, rm, rv, pv, ol, gl, rl, pl⟩ := x
      obtain ⟨⟨_, a1, c1, u1, _⟩, ⟨_, a2, c2, u2, _⟩, ⟨_, a3, c3, u3, _⟩, ⟨_, a4, c4, u4, _⟩⟩ := hok
      simp only at d0 d1 d2 d3 d4 d5 u1 u2 u3 u4
      subst u1 u2 u3 u4
      have s1 : (0 : Int) ≤ k := by omega
      have s2 : (k : Int) < l.length := by omega
      simp only at hyy hnn
      obtain ⟨B, hB⟩ : ∃ B, smallX ⟨.slice a1 ol.length c1, .slice a2 gl.length c2, cl, rm, .slice a3 rl.length c3, .slice a4 pl.length c4, ol, gl, rl, pl⟩ = B := ⟨_, rfl⟩
      rw [hB] at hyy hnn hno
      have HB := Lib.hid hB
      have hBa := hBr.alloc hBr.size (.cells #[.slice a1 ol.length c1, .slice a2 gl.length c2, .int .i64 cl, .int .i64 rm, .slice a3 rl.length c3, .slice a4 pl.length c4] 68)
      have hra := hr0.alloc (.cells #[.slice a1 ol.length c1, .slice a2 gl.length c2, .int .i64 cl, .int .i64 rm, .slice a3 rl.length c3, .slice a4 pl.length c4] 68)
      have HBa := Lib.hid hBa
      have HRa := Lib.hid hra
      clear hE hx hB hBa hra
      cases B with
      | true =>
        obtain ⟨g1, g2, g3, g4⟩ := hyy rfl
        have g1 := decide_eq_false g1; have g2 := decide_eq_false g2; have g3 := decide_eq_false g3; have g4 := decide_eq_false g4
        clear hyy hnn hno
        go_wp2
        go_roundg (gk - 1)
        case measure => omega
        case rel => exact ⟨k + 1, by first | rfl | go_num, by omega, HBa.out, HRa.out, fun q hq => by
          by_cases hqk : q = k
          · subst hqk; rw [HX.out]; exact HB.out
          · exact HA.out q (by omega)⟩
      | false =>
        have HN := Lib.hid (hno rfl)
        rcases hnn rfl with g1 | ⟨g1, g2⟩ | ⟨g1, g2, g3⟩ | ⟨g1, g2, g3, g4⟩
        · have g1 := decide_eq_true g1
          clear hyy hnn hno
          go_wp2
          go_ret
          exact ⟨by rw [← HRR.out, HN.out]; rfl, HBa.out⟩
        · have g1 := decide_eq_false g1; have g2 := decide_eq_true g2
          clear hyy hnn hno
          go_wp2
          go_ret
          exact ⟨by rw [← HRR.out, HN.out]; rfl, HBa.out⟩
        · have g1 := decide_eq_false g1; have g2 := decide_eq_false g2; have g3 := decide_eq_true g3
          clear hyy hnn hno
          go_wp2
          go_ret
          exact ⟨by rw [← HRR.out, HN.out]; rfl, HBa.out⟩
        · have g1 := decide_eq_false g1; have g2 := decide_eq_false g2; have g3 := decide_eq_false g3; have g4 := decide_eq_true g4
          clear hyy hnn hno
          go_wp2
          go_ret
          exact ⟨by rw [← HRR.out, HN.out]; rfl, HBa.out⟩
    · obtain rfl : k = l.length := by omega
      have hyes := allN_true (f := fun q => smallX (l.getD q default)) HA.out
      have HY := Lib.hid hyes
      clear hyes
      obtain ⟨wo, rfl⟩ : ∃ wo : World, wo = wr := ⟨_, rfl⟩
      have hcc := HCK.out _ hBr
      rw [HEE.out] at hcc
      have HCC := Lib.hid hcc
      clear hcc
      by_cases hE0 : E = 0
      · subst hE0
        have hcal := (H0.out HEE.out).2.2.2
        go_wp2_with (go_at_call 20; (with_reducible refine HCC.out.mono ?_); rintro e w1 ⟨rfl, hb⟩; replace hr0 := hr0.below hb hr0.lt; replace hBr := hBr.trans (hb.mono hBr.size); clear hb q0 q1 hlo; have q0 := hr0.cell 0; have q1 := hr0.cell 1; have hlo := hr0.lt)
        go_loopg [9] l.length (fun gg iv wr => ∃ k : Nat, iv = .int .i64 k ∧ k + gg = l.length ∧ Below w.heap.size w wr ∧ Row wr w.heap.size 24 [.int .i64 n, .slice A l.length c])
        case atStart => exact ⟨0, rfl, by omega, hBr, hr0⟩
        case round =>
          clear hBr hr0 hlo HA q0 q1
          obtain ⟨k, rfl, hkg2, hBr, hr0⟩ := hrel
          have q0 := hr0.cell 0
          have q1 := hr0.cell 1
          have hlo := hr0.lt
          by_cases hlt : k < l.length
          · obtain ⟨_, A', c', hv, hE⟩ := (HS.out.below hBr).1
            obtain ⟨b, off, rfl, hbb, hE⟩ := hE (by omega)
            cases hv
            obtain ⟨d0, d1, d2, d3, d4, d5⟩ := cellsX hE hlt
            have hok := HS.out.2 k hlt
            have hc0 : calX (l.getD k default) = 0 := calsE_all hcal k hlt
            obtain ⟨x, hx⟩ : ∃ x, l.getD k default = x := ⟨_, rfl⟩
            rw [hx] at d0 d1 d2 d3 d4 d5 hok hc0
            have hm := fun W (hb : Below w.heap.size w W) => rmoments0_any x.rl x.pl x.rv x.pv W (hok.below hb).2.2.1 (hok.below hb).2.2.2 hc0
            obtain ⟨ov, gv, cl, rm, rv, pv, ol, gl, rl, pl⟩ := x
            obtain ⟨⟨_, a1, c1, u1, _⟩, ⟨_, a2, c2, u2, _⟩, ⟨_, a3, c3, u3, _⟩, ⟨_, a4, c4, u4, _⟩⟩ := hok
            simp only at d0 d1 d2 d3 d4 d5 u1 u2 u3 u4 hm
            subst u1 u2 u3 u4
            have s1 : (0 : Int) ≤ k := by omega
            have s2 : (k : Int) < l.length := by omega
            have HBw := Lib.hid hBr
            have hbw := hbb
            have HR := Lib.hid hm
            clear hE hx hm hc0 hcal
            go_upto_region 14 with fail
            refine wp_region_det 19 (fun w0 => Below wr.heap.size wr w0) (by kernel_rfl) (by kernel_rfl) (Below.refl _ _).drew ?_
            refine wpDet_take (v := ?_) rfl (by kernel_rfl) (fun w0 hSw => ?_) ?_
            rotate_left 1
            · have y0 := (hSw.cell (p := ⟨w.heap.size, 0, none⟩) hlo).trans q0; have y1 := (hSw.cell (p := ⟨w.heap.size, 1, none⟩) hlo).trans q1
              go_simp
              with_reducible rfl
            simp only [Act.put, List.getElem_toArray, List.getElem_cons_succ, List.getElem_cons_zero, List.setIfInBounds_toArray, List.set_cons_zero, List.set_cons_succ]
            refine wpDet_take (v := .slice (some ⟨b, off, none⟩) l.length c) rfl (by kernel_rfl) (fun w0 hSw => ?_) ?_
            · have y0 := (hSw.cell (p := ⟨w.heap.size, 0, none⟩) hlo).trans q0; have y1 := (hSw.cell (p := ⟨w.heap.size, 1, none⟩) hlo).trans q1
              go_simp
            simp only [Act.put, List.getElem_toArray, List.getElem_cons_succ, List.getElem_cons_zero, List.setIfInBounds_toArray, List.set_cons_zero, List.set_cons_succ]
            refine wpDet_take (v := ?_) rfl (by kernel_rfl) (fun w0 hSw => ?_) ?_
            rotate_left 1
            · have y0 := (hSw.cell (p := ⟨w.heap.size, 0, none⟩) hlo).trans q0; have y1 := (hSw.cell (p := ⟨w.heap.size, 1, none⟩) hlo).trans q1
              go_simp
              with_reducible rfl
            simp only [Act.put, List.getElem_toArray, List.getElem_cons_succ, List.getElem_cons_zero, List.setIfInBounds_toArray, List.set_cons_zero, List.set_cons_succ]
            refine wpDet_take (v := .pointer (some ⟨b, off + k * 6, none⟩)) rfl (by kernel_rfl) (fun w0 hSw => ?_) ?_
            · have y0 := (hSw.cell (p := ⟨w.heap.size, 0, none⟩) hlo).trans q0; have y1 := (hSw.cell (p := ⟨w.heap.size, 1, none⟩) hlo).trans q1
              go_simp
            simp only [Act.put, List.getElem_toArray, List.getElem_cons_succ, List.getElem_cons_zero, List.setIfInBounds_toArray, List.set_cons_zero, List.set_cons_succ]
            refine wpDet_take (v := .pointer (some ⟨b, off + k * 6 + 4, none⟩)) rfl (by kernel_rfl) (fun w0 hSw => ?_) ?_
            · have y0 := (hSw.cell (p := ⟨w.heap.size, 0, none⟩) hlo).trans q0; have y1 := (hSw.cell (p := ⟨w.heap.size, 1, none⟩) hlo).trans q1
              go_simp
            simp only [Act.put, List.getElem_toArray, List.getElem_cons_succ, List.getElem_cons_zero, List.setIfInBounds_toArray, List.set_cons_zero, List.set_cons_succ]
            refine wpDet_take (v := .slice a3 rl.length c3) rfl (by kernel_rfl) (fun w0 hSw => ?_) ?_
            · have y0 := (hSw.cell (p := ⟨w.heap.size, 0, none⟩) hlo).trans q0; have y1 := (hSw.cell (p := ⟨w.heap.size, 1, none⟩) hlo).trans q1; have z0 := (hSw.cell (p := ⟨b, off + k * 6, none⟩) hbw).trans d0; have z1 := (hSw.cell (p := ⟨b, off + k * 6 + 1, none⟩) hbw).trans d1; have z2 := (hSw.cell (p := ⟨b, off + k * 6 + 2, none⟩) hbw).trans d2; have z3 := (hSw.cell (p := ⟨b, off + k * 6 + 3, none⟩) hbw).trans d3; have z4 := (hSw.cell (p := ⟨b, off + k * 6 + 4, none⟩) hbw).trans d4; have z5 := (hSw.cell (p := ⟨b, off + k * 6 + 5, none⟩) hbw).trans d5
              go_simp
            simp only [Act.put, List.getElem_toArray, List.getElem_cons_succ, List.getElem_cons_zero, List.setIfInBounds_toArray, List.set_cons_zero, List.set_cons_succ]
            refine wpDet_take (v := ?_) rfl (by kernel_rfl) (fun w0 hSw => ?_) ?_
            rotate_left 1
            · have y0 := (hSw.cell (p := ⟨w.heap.size, 0, none⟩) hlo).trans q0; have y1 := (hSw.cell (p := ⟨w.heap.size, 1, none⟩) hlo).trans q1
              go_simp
              with_reducible rfl
            simp only [Act.put, List.getElem_toArray, List.getElem_cons_succ, List.getElem_cons_zero, List.setIfInBounds_toArray, List.set_cons_zero, List.set_cons_succ]
            refine wpDet_take (v := .slice (some ⟨b, off, none⟩) l.length c) rfl (by kernel_rfl) (fun w0 hSw => ?_) ?_
            · have y0 := (hSw.cell (p := ⟨w.heap.size, 0, none⟩) hlo).trans q0; have y1 := (hSw.cell (p := ⟨w.heap.size, 1, none⟩) hlo).trans q1
              go_simp
            simp only [Act.put, List.getElem_toArray, List.getElem_cons_succ, List.getElem_cons_zero, List.setIfInBounds_toArray, List.set_cons_zero, List.set_cons_succ]
            refine wpDet_take (v := ?_) rfl (by kernel_rfl) (fun w0 hSw => ?_) ?_
            rotate_left 1
            · have y0 := (hSw.cell (p := ⟨w.heap.size, 0, none⟩) hlo).trans q0; have y1 := (hSw.cell (p := ⟨w.heap.size, 1, none⟩) hlo).trans q1
              go_simp
              with_reducible rfl
            simp only [Act.put, List.getElem_toArray, List.getElem_cons_succ, List.getElem_cons_zero, List.setIfInBounds_toArray, List.set_cons_zero, List.set_cons_succ]
            refine wpDet_take (v := .pointer (some ⟨b, off + k * 6, none⟩)) rfl (by kernel_rfl) (fun w0 hSw => ?_) ?_
            · have y0 := (hSw.cell (p := ⟨w.heap.size, 0, none⟩) hlo).trans q0; have y1 := (hSw.cell (p := ⟨w.heap.size, 1, none⟩) hlo).trans q1
              go_simp
            simp only [Act.put, List.getElem_toArray, List.getElem_cons_succ, List.getElem_cons_zero, List.setIfInBounds_toArray, List.set_cons_zero, List.set_cons_succ]
            refine wpDet_take (v := .pointer (some ⟨b, off + k * 6 + 5, none⟩)) rfl (by kernel_rfl) (fun w0 hSw => ?_) ?_
            · have y0 := (hSw.cell (p := ⟨w.heap.size, 0, none⟩) hlo).trans q0; have y1 := (hSw.cell (p := ⟨w.heap.size, 1, none⟩) hlo).trans q1
              go_simp
            simp only [Act.put, List.getElem_toArray, List.getElem_cons_succ, List.getElem_cons_zero, List.setIfInBounds_toArray, List.set_cons_zero, List.set_cons_succ]
            refine wpDet_take (v := .slice a4 pl.length c4) rfl (by kernel_rfl) (fun w0 hSw => ?_) ?_
            · have y0 := (hSw.cell (p := ⟨w.heap.size, 0, none⟩) hlo).trans q0; have y1 := (hSw.cell (p := ⟨w.heap.size, 1, none⟩) hlo).trans q1; have z0 := (hSw.cell (p := ⟨b, off + k * 6, none⟩) hbw).trans d0; have z1 := (hSw.cell (p := ⟨b, off + k * 6 + 1, none⟩) hbw).trans d1; have z2 := (hSw.cell (p := ⟨b, off + k * 6 + 2, none⟩) hbw).trans d2; have z3 := (hSw.cell (p := ⟨b, off + k * 6 + 3, none⟩) hbw).trans d3; have z4 := (hSw.cell (p := ⟨b, off + k * 6 + 4, none⟩) hbw).trans d4; have z5 := (hSw.cell (p := ⟨b, off + k * 6 + 5, none⟩) hbw).trans d5
              go_simp
            simp only [Act.put, List.getElem_toArray, List.getElem_cons_succ, List.getElem_cons_zero, List.setIfInBounds_toArray, List.set_cons_zero, List.set_cons_succ]
            refine wpDet_take (v := ?_) rfl (by kernel_rfl) (fun w0 hSw => ?_) ?_
            rotate_left 1
            · have y0 := (hSw.cell (p := ⟨w.heap.size, 0, none⟩) hlo).trans q0; have y1 := (hSw.cell (p := ⟨w.heap.size, 1, none⟩) hlo).trans q1
              go_simp
              with_reducible rfl
            simp only [Act.put, List.getElem_toArray, List.getElem_cons_succ, List.getElem_cons_zero, List.setIfInBounds_toArray, List.set_cons_zero, List.set_cons_succ]
            refine wpDet_take (v := ?_) rfl (by kernel_rfl) (fun w0 hSw => ?_) ?_
            rotate_left 1
            · have y0 := (hSw.cell (p := ⟨w.heap.size, 0, none⟩) hlo).trans q0; have y1 := (hSw.cell (p := ⟨w.heap.size, 1, none⟩) hlo).trans q1
              go_simp
              with_reducible rfl
            simp only [Act.put, List.getElem_toArray, List.getElem_cons_succ, List.getElem_cons_zero, List.setIfInBounds_toArray, List.set_cons_zero, List.set_cons_succ]
            refine wpDet_call (v := .tuple #[.slice none 0 0, .int .i64 0]) rfl (by kernel_rfl) (fun w0 hSw K hK => ?_) ?_
            · go_simp
              go_at_call 83
              refine (HR.out _ (HBw.out.trans (hSw.mono HBw.out.size))).mono ?_
              rintro e w9 ⟨rfl, hb⟩
              exact hK _ (hSw.trans (hb.mono hSw.size))
            simp only [Act.put, List.getElem_toArray, List.getElem_cons_succ, List.getElem_cons_zero, List.setIfInBounds_toArray, List.set_cons_zero, List.set_cons_succ]
            refine wpDet_take (v := .tuple #[.slice none 0 0, .int .i64 0]) rfl (by kernel_rfl) (fun w0 hSw => ?_) ?_
            · have y0 := (hSw.cell (p := ⟨w.heap.size, 0, none⟩) hlo).trans q0; have y1 := (hSw.cell (p := ⟨w.heap.size, 1, none⟩) hlo).trans q1
              go_simp
            simp only [Act.put, List.getElem_toArray, List.getElem_cons_succ, List.getElem_cons_zero, List.setIfInBounds_toArray, List.set_cons_zero, List.set_cons_succ]
            refine wpDet_take (v := .slice none 0 0) rfl (by kernel_rfl) (fun w0 hSw => ?_) ?_
            · have y0 := (hSw.cell (p := ⟨w.heap.size, 0, none⟩) hlo).trans q0; have y1 := (hSw.cell (p := ⟨w.heap.size, 1, none⟩) hlo).trans q1
              go_simp
            simp only [Act.put, List.getElem_toArray, List.getElem_cons_succ, List.getElem_cons_zero, List.setIfInBounds_toArray, List.set_cons_zero, List.set_cons_succ]
            refine wpDet_take (v := .int .i64 0) rfl (by kernel_rfl) (fun w0 hSw => ?_) ?_
            · have y0 := (hSw.cell (p := ⟨w.heap.size, 0, none⟩) hlo).trans q0; have y1 := (hSw.cell (p := ⟨w.heap.size, 1, none⟩) hlo).trans q1
              go_simp
            simp only [Act.put, List.getElem_toArray, List.getElem_cons_succ, List.getElem_cons_zero, List.setIfInBounds_toArray, List.set_cons_zero, List.set_cons_succ]
            refine wpDet_take (v := .slice none 0 0) rfl (by kernel_rfl) (fun w0 hSw => ?_) ?_
            · have y0 := (hSw.cell (p := ⟨w.heap.size, 0, none⟩) hlo).trans q0; have y1 := (hSw.cell (p := ⟨w.heap.size, 1, none⟩) hlo).trans q1
              go_simp
            simp only [Act.put, List.getElem_toArray, List.getElem_cons_succ, List.getElem_cons_zero, List.setIfInBounds_toArray, List.set_cons_zero, List.set_cons_succ]
            refine wpDet_done (fun V hV => ?_)
            go_wp2
            go_roundg (gk - 1)
            case measure => omega
            case rel => exact ⟨k + 1, by first | rfl | go_num, by omega, HBw.out.trans (hV.mono HBw.out.size), hr0.below hV hlo⟩
          · obtain rfl : k = l.length := by omega
            go_wp2_with fail
            go_ret
            exact ⟨by rw [← HRR.out, HY.out]; rfl, hBr⟩
      · have z1 : (E != 0) = true := bne_iff_ne.2 hE0
        clear hE0
        go_wp2_with (go_at_call 20; (with_reducible refine HCC.out.mono ?_); rintro e w1 ⟨rfl, hb⟩)
        go_ret
        exact ⟨by rw [← HRR.out, HY.out]; rfl, hBr.trans (hb.mono hBr.size)⟩
set_option maxRecDepth 100000 in
set_option maxHeartbeats 4000000 in
theorem rfew20_any (l : List Lx) (n : Int) (v : Value) (w : World) (h : SlX w w.heap.size v l) (hcap : capX l) :
    Calls Tryz.prog 35 #[ttV n v, .int .i64 0, .int .i64 0] w fun e w' => e = .returned (.bool (few20 l)) ∧ Below w.heap.size w w' := by
  unfold few20
  by_cases hl : 6 < l.length
  · rw [if_pos hl]
    obtain ⟨⟨_, A, c, rfl, _⟩, _⟩ := h
    have hB0 := below_alloc' w (.cells #[.int .i64 n, .slice A l.length c] 24)
    have f1 : decide (6 < (l.length : Int)) = true := decide_eq_true (by omega)
    by_cases h1 : 64 < l.length
    · have f2 : decide (64 < (l.length : Int)) = true := decide_eq_true (by omega)
      rw [decide_eq_true h1, Bool.true_and]
      by_cases h2 : l.length ≤ 100
      · have f3 : decide ((l.length : Int) ≤ 100) = true := decide_eq_true (by omega)
        rw [decide_eq_true h2]
        clear hl h1 h2
        go_enter Tryz.func35, Tryz.ntmps35
        go_wp2_with fail
        go_ret
        exact ⟨rfl, hB0⟩
      · have f3 : decide ((l.length : Int) ≤ 100) = false := decide_eq_false (by omega)
        rw [decide_eq_false h2]
        clear hl h1 h2
        go_enter Tryz.func35, Tryz.ntmps35
        go_wp2_with fail
        go_ret
        exact ⟨rfl, hB0⟩
    · have f2 : decide (64 < (l.length : Int)) = false := decide_eq_false (by omega)
      rw [decide_eq_false h1, Bool.false_and]
      clear hl h1
      go_enter Tryz.func35, Tryz.ntmps35
      go_wp2_with fail
      go_ret
      exact ⟨rfl, hB0⟩
  · rw [if_neg hl]
    exact rfew_few l n v w h hcap (by omega)
def few36 (l : List Lx) (nk ne : Nat) (people : Int) : Bool := few20 l && (decide (nk ≤ 100) && (decide (ne ≤ 24) && (decide (people ≤ 40) || decide (1024 < people))))
set_option maxRecDepth 100000 in
set_option maxHeartbeats 4000000 in
theorem rfew36_any (l : List Lx) (n : Int) (v : Value) (Ak : Option Addr) (nk ck : Nat) (Ae : Option Addr) (ne ce : Nat) (people : Int) (w : World) (h : SlX w w.heap.size v l) (hcap : capX l) :
    Calls Tryz.prog 10 #[ttV n v, .slice Ak nk ck, .slice Ae ne ce, .int .i64 people] w fun e w' => e = .returned (.bool (few36 l nk ne people)) ∧ Below w.heap.size w w' := by
  have hf := fun (W : World) (hb : Below w.heap.size w W) => rfew20_any l n v W (h.below hb) hcap
  obtain ⟨⟨_, A, c, rfl, _⟩, _⟩ := h
  have hB0 := below_alloc' w (.cells #[.int .i64 n, .slice A l.length c] 24)
  unfold few36
  obtain ⟨B, hB⟩ : ∃ B, few20 l = B := ⟨_, rfl⟩
  rw [hB] at hf ⊢
  have HF := Lib.hid (hf _ hB0)
  clear hf hB hcap
  cases B with
  | false =>
    rw [Bool.false_and]
    go_enter Tryz.func10, Tryz.ntmps10
    go_wp2_with (go_at_call 35; (with_reducible refine HF.out.mono ?_); rintro e w1 ⟨rfl, hb⟩)
    go_ret
    exact ⟨rfl, hB0.trans (hb.mono hB0.size)⟩
  | true =>
    rw [Bool.true_and]
    by_cases h1 : nk ≤ 100
    · have f1 : decide ((nk : Int) ≤ 100) = true := decide_eq_true (by omega)
      rw [decide_eq_true h1, Bool.true_and]
      by_cases h2 : ne ≤ 24
      · have f2 : decide ((ne : Int) ≤ 24) = true := decide_eq_true (by omega)
        rw [decide_eq_true h2, Bool.true_and]
        by_cases h3 : people ≤ 40
        · have f3 : decide (people ≤ 40) = true := decide_eq_true h3
          rw [f3, Bool.true_or]
          clear h1 h2 h3
          go_enter Tryz.func10, Tryz.ntmps10
          go_wp2_with (go_at_call 35; (with_reducible refine HF.out.mono ?_); rintro e w1 ⟨rfl, hb⟩)
          go_ret
          exact ⟨rfl, hB0.trans (hb.mono hB0.size)⟩
        · have f3 : decide (people ≤ 40) = false := decide_eq_false h3
          rw [f3, Bool.false_or]
          obtain ⟨g, hg⟩ : ∃ g, decide (1024 < people) = g := ⟨_, rfl⟩
          rw [hg]
          clear h1 h2 h3
          cases g
          all_goals
            go_enter Tryz.func10, Tryz.ntmps10
            go_wp2_with (go_at_call 35; (with_reducible refine HF.out.mono ?_); rintro e w1 ⟨rfl, hb⟩)
            go_ret
            exact ⟨rfl, hB0.trans (hb.mono hB0.size)⟩
      · have f2 : decide ((ne : Int) ≤ 24) = false := decide_eq_false (by omega)
        rw [decide_eq_false h2, Bool.false_and]
        clear h1 h2
        go_enter Tryz.func10, Tryz.ntmps10
        go_wp2_with (go_at_call 35; (with_reducible refine HF.out.mono ?_); rintro e w1 ⟨rfl, hb⟩)
        go_ret
        exact ⟨rfl, hB0.trans (hb.mono hB0.size)⟩
    · have f1 : decide ((nk : Int) ≤ 100) = false := decide_eq_false (by omega)
      rw [decide_eq_false h1, Bool.false_and]
      clear h1
      go_enter Tryz.func10, Tryz.ntmps10
      go_wp2_with (go_at_call 35; (with_reducible refine HF.out.mono ?_); rintro e w1 ⟨rfl, hb⟩)
      go_ret
      exact ⟨rfl, hB0.trans (hb.mono hB0.size)⟩
end Go.Proofs.YthckledagggoiaaGreatDoor
