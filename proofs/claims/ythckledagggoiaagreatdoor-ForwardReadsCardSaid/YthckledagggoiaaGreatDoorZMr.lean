import Derived.Test.YthckledagggoiaaGreatDoorZPj
import Derived.Test.YthckledagggoiaaGreatDoorZMt
import Derived.Test.YthckledagggoiaaGreatDoorZMg
import Derived.Deep.LoopGhost
import Derived.Deep.Cut
set_option linter.unusedSimpArgs false
set_option linter.unusedVariables false
namespace Go.Proofs.YthckledagggoiaaGreatDoor
open Go.RowKit Go.Shelf Fk Sha
/-! frankingref19: the first time of a rule. -/
theorem up_mul {x e : Int} (hx : 0 < x) (he : 1 ≤ e) : x ≤ (x + e - 1).tdiv e * e ∧ (x + e - 1).tdiv e * e ≤ x + e - 1 ∧ 0 ≤ (x + e - 1).tdiv e ∧ (x + e - 1).tdiv e ≤ x + e - 1 := by
  rw [Int.tdiv_eq_ediv_of_nonneg (by omega)]
  have h1 := Int.mul_ediv_add_emod (x + e - 1) e
  have h2 := Int.emod_nonneg (x + e - 1) (show e ≠ 0 by omega)
  have h3 := Int.emod_lt_of_pos (x + e - 1) (show 0 < e by omega)
  have h4 : (x + e - 1) / e * e = e * ((x + e - 1) / e) := Int.mul_comm _ _
  have h5 : 0 ≤ (x + e - 1) / e := Int.ediv_nonneg (by omega) (by omega)
  have h6 : (x + e - 1) / e ≤ x + e - 1 := Int.ediv_le_self _ (by omega)
  generalize (x + e - 1) % e = r at *
  generalize (x + e - 1) / e = q at *
  rw [h4]
  generalize e * q = z at *
  omega
set_option maxRecDepth 100000 in
set_option maxHeartbeats 4000000 in
theorem least_any (f u ev m : Int) (hf : 0 ≤ f) (hfu : f < u) (hu : u ≤ 2097152) (he : 1 ≤ ev) (he2 : ev ≤ 2097152) (hm : 0 ≤ m) (hm2 : m < 2097152) (w : World) :
    Calls Tryz.prog 154 #[.agg #[.int .i64 f, .int .i64 u, .int .i64 ev], .int .i64 m] w fun e w' => ∃ v : Int, e = .returned (.int .i64 v) ∧ m ≤ v ∧ v ≤ 2097152 ∧ Below w.heap.size w w' := by
  have hB := below_alloc' w (.cells #[.int .i64 f, .int .i64 u, .int .i64 ev] 161)
  have r0 := Row.new w 161 [.int .i64 f, .int .i64 u, .int .i64 ev]
  by_cases h1 : f < m
  · have f1 : decide (f < m) = true := decide_eq_true h1
    obtain ⟨u1, u2, u3, u4⟩ := up_mul (x := m - f) (e := ev) (by omega) he
    have w1 : IntKind.i64.wrap (m - f) = m - f := IntWalk.i64_in _ (by omega)
    have w2 : IntKind.i64.wrap (m - f + ev) = m - f + ev := IntWalk.i64_in _ (by omega)
    have w3 : IntKind.i64.wrap (m - f + ev - 1) = m - f + ev - 1 := IntWalk.i64_in _ (by omega)
    obtain ⟨D, hD⟩ : ∃ D, (m - f + ev - 1).tdiv ev = D := ⟨_, rfl⟩
    rw [hD] at u1 u2 u3 u4
    obtain ⟨DE, hDE⟩ : ∃ x, D * ev = x := ⟨_, rfl⟩
    rw [hDE] at u1 u2
    have w4 : IntKind.i64.wrap D = D := IntWalk.i64_in _ (by omega)
    have w5 : IntKind.i64.wrap DE = DE := IntWalk.i64_in _ (by omega)
    have w6 : IntKind.i64.wrap (f + DE) = f + DE := IntWalk.i64_in _ (by omega)
    obtain ⟨T, hT⟩ : ∃ x, f + DE = x := ⟨_, rfl⟩
    rw [hT] at w6
    have hev : ¬ ev = 0 := by omega
    have hTm : m ≤ T := by omega
    have HT := Lib.hid hTm
    have HU := Lib.hid (And.intro hfu (And.intro hu hm2))
    clear u1 u2 u3 u4 hTm h1 hf hfu hu he he2 hm hm2
    go_enter Tryz.func154, Tryz.ntmps154
    go_upto_region 3 with fail
    obtain ⟨W, hW⟩ : ∃ W, w.alloc (.cells #[.int .i64 f, .int .i64 u, .int .i64 ev] 161) = W := ⟨_, rfl⟩
    rw [hW] at hB r0 ⊢
    have c0 := r0.cell 0
    have c1 := r0.cell 1
    have c2 := r0.cell 2
    have hlo := r0.lt
    clear hW
    refine wp_region_det 17 (fun w0 => Below W.heap.size W w0) (by kernel_rfl) (by kernel_rfl) (Below.refl _ _).drew ?_
    refine wpDet_take (v := ?_) rfl (by kernel_rfl) (fun w0 hSw => ?_) ?_
    rotate_left 1
    · have y0 := (hSw.cell (p := ⟨w.heap.size, 0, none⟩) hlo).trans c0; have y1 := (hSw.cell (p := ⟨w.heap.size, 1, none⟩) hlo).trans c1; have y2 := (hSw.cell (p := ⟨w.heap.size, 2, none⟩) hlo).trans c2
      go_simp
      with_reducible rfl
    simp only [Act.put, List.getElem_toArray, List.getElem_cons_succ, List.getElem_cons_zero, List.setIfInBounds_toArray, List.set_cons_zero, List.set_cons_succ]
    refine wpDet_take (v := .int .i64 f) rfl (by kernel_rfl) (fun w0 hSw => ?_) ?_
    · have y0 := (hSw.cell (p := ⟨w.heap.size, 0, none⟩) hlo).trans c0; have y1 := (hSw.cell (p := ⟨w.heap.size, 1, none⟩) hlo).trans c1; have y2 := (hSw.cell (p := ⟨w.heap.size, 2, none⟩) hlo).trans c2
      go_simp
    simp only [Act.put, List.getElem_toArray, List.getElem_cons_succ, List.getElem_cons_zero, List.setIfInBounds_toArray, List.set_cons_zero, List.set_cons_succ]
    refine wpDet_take (v := ?_) rfl (by kernel_rfl) (fun w0 hSw => ?_) ?_
    rotate_left 1
    · have y0 := (hSw.cell (p := ⟨w.heap.size, 0, none⟩) hlo).trans c0; have y1 := (hSw.cell (p := ⟨w.heap.size, 1, none⟩) hlo).trans c1; have y2 := (hSw.cell (p := ⟨w.heap.size, 2, none⟩) hlo).trans c2
      go_simp
      with_reducible rfl
    simp only [Act.put, List.getElem_toArray, List.getElem_cons_succ, List.getElem_cons_zero, List.setIfInBounds_toArray, List.set_cons_zero, List.set_cons_succ]
    refine wpDet_take (v := ?_) rfl (by kernel_rfl) (fun w0 hSw => ?_) ?_
    rotate_left 1
    · have y0 := (hSw.cell (p := ⟨w.heap.size, 0, none⟩) hlo).trans c0; have y1 := (hSw.cell (p := ⟨w.heap.size, 1, none⟩) hlo).trans c1; have y2 := (hSw.cell (p := ⟨w.heap.size, 2, none⟩) hlo).trans c2
      go_simp
      with_reducible rfl
    simp only [Act.put, List.getElem_toArray, List.getElem_cons_succ, List.getElem_cons_zero, List.setIfInBounds_toArray, List.set_cons_zero, List.set_cons_succ]
    refine wpDet_take (v := .int .i64 f) rfl (by kernel_rfl) (fun w0 hSw => ?_) ?_
    · have y0 := (hSw.cell (p := ⟨w.heap.size, 0, none⟩) hlo).trans c0; have y1 := (hSw.cell (p := ⟨w.heap.size, 1, none⟩) hlo).trans c1; have y2 := (hSw.cell (p := ⟨w.heap.size, 2, none⟩) hlo).trans c2
      go_simp
    simp only [Act.put, List.getElem_toArray, List.getElem_cons_succ, List.getElem_cons_zero, List.setIfInBounds_toArray, List.set_cons_zero, List.set_cons_succ]
    refine wpDet_take (v := .int .i64 (m - f)) rfl (by kernel_rfl) (fun w0 hSw => ?_) ?_
    · have y0 := (hSw.cell (p := ⟨w.heap.size, 0, none⟩) hlo).trans c0; have y1 := (hSw.cell (p := ⟨w.heap.size, 1, none⟩) hlo).trans c1; have y2 := (hSw.cell (p := ⟨w.heap.size, 2, none⟩) hlo).trans c2
      go_simp
    simp only [Act.put, List.getElem_toArray, List.getElem_cons_succ, List.getElem_cons_zero, List.setIfInBounds_toArray, List.set_cons_zero, List.set_cons_succ]
    refine wpDet_take (v := ?_) rfl (by kernel_rfl) (fun w0 hSw => ?_) ?_
    rotate_left 1
    · have y0 := (hSw.cell (p := ⟨w.heap.size, 0, none⟩) hlo).trans c0; have y1 := (hSw.cell (p := ⟨w.heap.size, 1, none⟩) hlo).trans c1; have y2 := (hSw.cell (p := ⟨w.heap.size, 2, none⟩) hlo).trans c2
      go_simp
      with_reducible rfl
    simp only [Act.put, List.getElem_toArray, List.getElem_cons_succ, List.getElem_cons_zero, List.setIfInBounds_toArray, List.set_cons_zero, List.set_cons_succ]
    refine wpDet_take (v := .int .i64 ev) rfl (by kernel_rfl) (fun w0 hSw => ?_) ?_
    · have y0 := (hSw.cell (p := ⟨w.heap.size, 0, none⟩) hlo).trans c0; have y1 := (hSw.cell (p := ⟨w.heap.size, 1, none⟩) hlo).trans c1; have y2 := (hSw.cell (p := ⟨w.heap.size, 2, none⟩) hlo).trans c2
      go_simp
    simp only [Act.put, List.getElem_toArray, List.getElem_cons_succ, List.getElem_cons_zero, List.setIfInBounds_toArray, List.set_cons_zero, List.set_cons_succ]
    refine wpDet_take (v := .int .i64 (m - f + ev)) rfl (by kernel_rfl) (fun w0 hSw => ?_) ?_
    · have y0 := (hSw.cell (p := ⟨w.heap.size, 0, none⟩) hlo).trans c0; have y1 := (hSw.cell (p := ⟨w.heap.size, 1, none⟩) hlo).trans c1; have y2 := (hSw.cell (p := ⟨w.heap.size, 2, none⟩) hlo).trans c2
      go_simp
    simp only [Act.put, List.getElem_toArray, List.getElem_cons_succ, List.getElem_cons_zero, List.setIfInBounds_toArray, List.set_cons_zero, List.set_cons_succ]
    refine wpDet_take (v := .int .i64 (m - f + ev - 1)) rfl (by kernel_rfl) (fun w0 hSw => ?_) ?_
    · have y0 := (hSw.cell (p := ⟨w.heap.size, 0, none⟩) hlo).trans c0; have y1 := (hSw.cell (p := ⟨w.heap.size, 1, none⟩) hlo).trans c1; have y2 := (hSw.cell (p := ⟨w.heap.size, 2, none⟩) hlo).trans c2
      go_simp
    simp only [Act.put, List.getElem_toArray, List.getElem_cons_succ, List.getElem_cons_zero, List.setIfInBounds_toArray, List.set_cons_zero, List.set_cons_succ]
    refine wpDet_take (v := ?_) rfl (by kernel_rfl) (fun w0 hSw => ?_) ?_
    rotate_left 1
    · have y0 := (hSw.cell (p := ⟨w.heap.size, 0, none⟩) hlo).trans c0; have y1 := (hSw.cell (p := ⟨w.heap.size, 1, none⟩) hlo).trans c1; have y2 := (hSw.cell (p := ⟨w.heap.size, 2, none⟩) hlo).trans c2
      go_simp
      with_reducible rfl
    simp only [Act.put, List.getElem_toArray, List.getElem_cons_succ, List.getElem_cons_zero, List.setIfInBounds_toArray, List.set_cons_zero, List.set_cons_succ]
    refine wpDet_take (v := .int .i64 ev) rfl (by kernel_rfl) (fun w0 hSw => ?_) ?_
    · have y0 := (hSw.cell (p := ⟨w.heap.size, 0, none⟩) hlo).trans c0; have y1 := (hSw.cell (p := ⟨w.heap.size, 1, none⟩) hlo).trans c1; have y2 := (hSw.cell (p := ⟨w.heap.size, 2, none⟩) hlo).trans c2
      go_simp
    simp only [Act.put, List.getElem_toArray, List.getElem_cons_succ, List.getElem_cons_zero, List.setIfInBounds_toArray, List.set_cons_zero, List.set_cons_succ]
    refine wpDet_take (v := .int .i64 D) rfl (by kernel_rfl) (fun w0 hSw => ?_) ?_
    · have y0 := (hSw.cell (p := ⟨w.heap.size, 0, none⟩) hlo).trans c0; have y1 := (hSw.cell (p := ⟨w.heap.size, 1, none⟩) hlo).trans c1; have y2 := (hSw.cell (p := ⟨w.heap.size, 2, none⟩) hlo).trans c2
      go_simp
    simp only [Act.put, List.getElem_toArray, List.getElem_cons_succ, List.getElem_cons_zero, List.setIfInBounds_toArray, List.set_cons_zero, List.set_cons_succ]
    refine wpDet_take (v := ?_) rfl (by kernel_rfl) (fun w0 hSw => ?_) ?_
    rotate_left 1
    · have y0 := (hSw.cell (p := ⟨w.heap.size, 0, none⟩) hlo).trans c0; have y1 := (hSw.cell (p := ⟨w.heap.size, 1, none⟩) hlo).trans c1; have y2 := (hSw.cell (p := ⟨w.heap.size, 2, none⟩) hlo).trans c2
      go_simp
      with_reducible rfl
    simp only [Act.put, List.getElem_toArray, List.getElem_cons_succ, List.getElem_cons_zero, List.setIfInBounds_toArray, List.set_cons_zero, List.set_cons_succ]
    refine wpDet_take (v := .int .i64 ev) rfl (by kernel_rfl) (fun w0 hSw => ?_) ?_
    · have y0 := (hSw.cell (p := ⟨w.heap.size, 0, none⟩) hlo).trans c0; have y1 := (hSw.cell (p := ⟨w.heap.size, 1, none⟩) hlo).trans c1; have y2 := (hSw.cell (p := ⟨w.heap.size, 2, none⟩) hlo).trans c2
      go_simp
    simp only [Act.put, List.getElem_toArray, List.getElem_cons_succ, List.getElem_cons_zero, List.setIfInBounds_toArray, List.set_cons_zero, List.set_cons_succ]
    refine wpDet_take (v := .int .i64 DE) rfl (by kernel_rfl) (fun w0 hSw => ?_) ?_
    · have y0 := (hSw.cell (p := ⟨w.heap.size, 0, none⟩) hlo).trans c0; have y1 := (hSw.cell (p := ⟨w.heap.size, 1, none⟩) hlo).trans c1; have y2 := (hSw.cell (p := ⟨w.heap.size, 2, none⟩) hlo).trans c2
      go_simp
    simp only [Act.put, List.getElem_toArray, List.getElem_cons_succ, List.getElem_cons_zero, List.setIfInBounds_toArray, List.set_cons_zero, List.set_cons_succ]
    refine wpDet_take (v := .int .i64 T) rfl (by kernel_rfl) (fun w0 hSw => ?_) ?_
    · have y0 := (hSw.cell (p := ⟨w.heap.size, 0, none⟩) hlo).trans c0; have y1 := (hSw.cell (p := ⟨w.heap.size, 1, none⟩) hlo).trans c1; have y2 := (hSw.cell (p := ⟨w.heap.size, 2, none⟩) hlo).trans c2
      go_simp
    simp only [Act.put, List.getElem_toArray, List.getElem_cons_succ, List.getElem_cons_zero, List.setIfInBounds_toArray, List.set_cons_zero, List.set_cons_succ]
    refine wpDet_done (fun V hV => ?_)
    have hBV := hB.trans (hV.mono hB.size)
    have d1 : V.cell? ⟨w.heap.size, 1, none⟩ = some (.int .i64 u) := (hV.cell (p := ⟨w.heap.size, 1, none⟩) hlo).trans c1
    clear hV hB r0 c0 c1 c2 w1 w2 w3 w4 w5 w6 hD hDE hT hev
    by_cases h2 : u ≤ T
    · have f2 : decide (u ≤ T) = true := decide_eq_true h2
      clear h2
      go_wp2
      go_ret
      exact ⟨2097152, rfl, by have := HU.out; omega, by omega, hBV⟩
    · have f2 : decide (u ≤ T) = false := decide_eq_false h2
      have HN := Lib.hid h2
      clear h2
      go_wp2
      go_ret
      exact ⟨T, rfl, HT.out, by have := HU.out; have := HN.out; omega, hBV⟩
  · have f1 : decide (f < m) = false := decide_eq_false h1
    have f2 : decide (u ≤ f) = false := decide_eq_false (by omega)
    have hmf : m ≤ f := by omega
    have hfe : f ≤ 2097152 := by omega
    clear h1 hfu hu r0
    go_enter Tryz.func154, Tryz.ntmps154
    go_wp2
    go_ret
    exact ⟨f, rfl, hmf, hfe, hB⟩
end Go.Proofs.YthckledagggoiaaGreatDoor

set_option linter.unusedSimpArgs false
set_option linter.unusedVariables false
namespace Go.Proofs.YthckledagggoiaaGreatDoor
open Go.RowKit Go.Shelf Fk Sha
/-! frankingref19.Check -/
theorem prevU_ge {l : List Gp} {k : Nat} (hk : k ≤ l.length) (h : ∀ q, q < k → gapB l q = true) : -1 ≤ prevU l k := by
  induction k with
  | zero => unfold prevU; rw [if_pos rfl]; exact Int.le_refl _
  | succ k ih =>
    have h1 := ih (by omega) (fun q hq => h q (by omega))
    have h2 := gapB_yes rfl rfl (h k (by omega))
    have e : prevU l (k + 1) = (l.getD k default).u := by unfold prevU; rw [if_neg (by omega), Nat.add_sub_cancel]
    rw [e]
    omega
set_option maxRecDepth 100000 in
set_option maxHeartbeats 8000000 in
theorem rcal_few (r : List Rl) (g : List Gp) (v u : Value) (w : World) (hr : SlR w w.heap.size v r) (hg : SlP w w.heap.size u g) (h1 : r.length ≤ 16) (h2 : g.length ≤ 64) :
    Calls Tryz.prog 56 #[v, u] w fun e w' => e = .returned (.int .i64 (calQ r g)) ∧ Below w.heap.size w w' := by
  have HR := Lib.hid hr
  have HG := Lib.hid hg
  obtain ⟨_, A, c, rfl, _⟩ := hr
  obtain ⟨_, A2, c2, rfl, _⟩ := hg
  have f1 : decide (16 < (r.length : Int)) = false := decide_eq_false (by omega)
  have f2 : decide (64 < (g.length : Int)) = false := decide_eq_false (by omega)
  go_enter Tryz.func56, Tryz.ntmps56
  go_wp2_with fail
  go_loopg [5] r.length (fun gg iv wr => ∃ k : Nat, iv = .int .i64 k ∧ k + gg = r.length ∧ Below w.heap.size w wr ∧ ∀ q, q < k → ruleB (r.getD q default) = true)
  case atStart => exact ⟨0, rfl, by omega, Below.refl _ _, fun q hq => by omega⟩
  case round =>
    clear f1 f2
    obtain ⟨k, rfl, hkg, hBr, hall⟩ := hrel
    have HA := Lib.hid hall
    clear hall
    by_cases hlt : k < r.length
    · obtain ⟨_, A', c', hv, hE⟩ := HR.out.below hBr
      obtain ⟨b, off, rfl, hbb, hE⟩ := hE (by omega)
      cases hv
      obtain ⟨d0, d1, d2⟩ := cellsR (B := 0) hE hlt
      obtain ⟨x, hx⟩ : ∃ x, r.getD k default = x := ⟨_, rfl⟩
      rw [hx] at d0 d1 d2
      have HX := Lib.hid hx
      have s1 : (0 : Int) ≤ k := by omega
      have s2 : (k : Int) < r.length := by omega
      clear hE hx
      cases hb : ruleB x with
      | true =>
        have HB := Lib.hid hb
        obtain ⟨g1, g2, g3, g4, g5⟩ := ruleB_yes hb
        clear hb
        have g1 := decide_eq_false g1; have g2 := decide_eq_false g2; have g3 := decide_eq_false g3; have g4 := decide_eq_false g4; have g5 := decide_eq_false g5
        go_wp2
        go_roundg (gk - 1)
        case measure => omega
        case rel => exact ⟨k + 1, by first | rfl | go_num, by omega, hBr.alloc hBr.size _, fun q hq => by
          by_cases hqk : q = k
          · subst hqk; rw [HX.out]; exact HB.out
          · exact HA.out q (by omega)⟩
      | false =>
        have hno : rulesB r = false := allN_false hlt (by rw [HX.out]; exact hb)
        have HN := Lib.hid hno
        clear hno
        rcases ruleB_no hb with g1 | ⟨g1, g2⟩ | ⟨g1, g2, g3⟩ | ⟨g1, g2, g3, g4⟩ | ⟨g1, g2, g3, g4, g5⟩
        · have g1 := decide_eq_true g1
          clear hb
          go_wp2
          go_ret
          exact ⟨by rw [calQ_no1 HN.out]; rfl, hBr.alloc hBr.size _⟩
        · have g1 := decide_eq_false g1; have g2 := decide_eq_true g2
          clear hb
          go_wp2
          go_ret
          exact ⟨by rw [calQ_no1 HN.out]; rfl, hBr.alloc hBr.size _⟩
        · have g1 := decide_eq_false g1; have g2 := decide_eq_false g2; have g3 := decide_eq_true g3
          clear hb
          go_wp2
          go_ret
          exact ⟨by rw [calQ_no1 HN.out]; rfl, hBr.alloc hBr.size _⟩
        · have g1 := decide_eq_false g1; have g2 := decide_eq_false g2; have g3 := decide_eq_false g3; have g4 := decide_eq_true g4
          clear hb
          go_wp2
          go_ret
          exact ⟨by rw [calQ_no1 HN.out]; rfl, hBr.alloc hBr.size _⟩
        · have g1 := decide_eq_false g1; have g2 := decide_eq_false g2; have g3 := decide_eq_false g3; have g4 := decide_eq_false g4; have g5 := decide_eq_true g5
          clear hb
          go_wp2
          go_ret
          exact ⟨by rw [calQ_no1 HN.out]; rfl, hBr.alloc hBr.size _⟩
    · obtain rfl : k = r.length := by omega
      have hyes : rulesB r = true := allN_true HA.out
      have HY := Lib.hid hyes
      clear hyes
      obtain ⟨wo, rfl⟩ : ∃ wo : World, wo = wr := ⟨_, rfl⟩
      go_wp2_with fail
      go_loopg [7] g.length (fun gg iv wr => ∃ k : Nat, iv = .int .i64 k ∧ k + gg = g.length ∧ Below w.heap.size w wr ∧ ∀ q, q < k → gapB g q = true)
      case atStart => exact ⟨0, rfl, by omega, hBr, fun q hq => by omega⟩
      case round =>
        clear hBr
        obtain ⟨k, rfl, hkg2, hBr, hall⟩ := hrel
        have HA2 := Lib.hid hall
        clear hall
        by_cases hlt : k < g.length
        · obtain ⟨_, A', c', hv, hE⟩ := HG.out.below hBr
          obtain ⟨b, off, rfl, hbb, hE⟩ := hE (by omega)
          cases hv
          obtain ⟨d0, d1⟩ := cellsP (B := 0) hE hlt
          have hpu := prevU_ge (by omega) HA2.out
          have hpp : 0 < k → wr.cell? ⟨b, off + (k - 1) * 2 + 1, none⟩ = some (.int .i64 (prevU g k)) := fun h0 => by
            unfold prevU; rw [if_neg (by omega)]; exact (cellsP (B := 0) hE (show k - 1 < g.length by omega)).2
          have hp0 : k = 0 → prevU g k = -1 := fun h => by unfold prevU; rw [if_pos h]
          obtain ⟨x, hx⟩ : ∃ x, g.getD k default = x := ⟨_, rfl⟩
          obtain ⟨bb, hbb2⟩ : ∃ bb, prevU g k = bb := ⟨_, rfl⟩
          rw [hx] at d0 d1
          rw [hbb2] at hpu hpp hp0
          have s1 : (0 : Int) ≤ k := by omega
          have s2 : (k : Int) < g.length := by omega
          have r0 := Row.new wr 163 [.int .i64 x.f, .int .i64 x.u]
          have hBa := hBr.alloc hBr.size (.cells #[.int .i64 x.f, .int .i64 x.u] 163)
          have hBw := below_alloc' wr (.cells #[.int .i64 x.f, .int .i64 x.u] 163)
          have hbz : b < wr.heap.size := Nat.lt_of_lt_of_le hbb hBr.size
          have hbw0 : b < (wr.alloc (.cells #[.int .i64 x.f, .int .i64 x.u] 163)).heap.size := Nat.lt_of_lt_of_le hbz hBw.size
          have hpp2 : 0 < k → (wr.alloc (.cells #[.int .i64 x.f, .int .i64 x.u] 163)).cell? ⟨b, off + (k - 1) * 2 + 1, none⟩ = some (.int .i64 bb) := fun h0 => (hBw.cell (p := ⟨b, off + (k - 1) * 2 + 1, none⟩) hbz).trans (hpp h0)
          have hgb : gapB g k = (decide (bb < x.f) && (decide (x.f < x.u) && decide (x.u ≤ 2097152))) := by unfold gapB; rw [hx, hbb2]
          clear hE hpp hBw hx hbb2 hbz
          have HGB := Lib.hid hgb
          have HBR := Lib.hid hBr
          clear hgb hBr
          go_upto_region 13 with fail
          obtain ⟨W, hW⟩ : ∃ W, wr.alloc (.cells #[.int .i64 x.f, .int .i64 x.u] 163) = W := ⟨_, rfl⟩
          rw [hW] at r0 hBa hbw0 hpp2 ⊢
          have g0 := r0.cell 0
          have g1 := r0.cell 1
          have hG := r0.lt
          have hbw := hbw0
          clear hW hbw0 r0 d0 d1
          generalize wr.heap.size = G at *
          by_cases q1 : x.f < 0
          · have hno : gapsB g = false := allN_false hlt (by rw [HGB.out, decide_eq_false (by omega)]; rfl)
            have HN := Lib.hid hno
            have z1 := decide_eq_true q1
            clear hno hpp2 hp0 q1
            refine wp_region_det 29 (fun w0 => Below W.heap.size W w0) (by kernel_rfl) (by kernel_rfl) (Below.refl _ _).drew ?_
            refine wpDet_take (v := ?_) rfl (by kernel_rfl) (fun w0 hSw => ?_) ?_
            rotate_left 1
            · have y0 := (hSw.cell (p := ⟨G, 0, none⟩) hG).trans g0; have y1 := (hSw.cell (p := ⟨G, 1, none⟩) hG).trans g1
              go_simp
              with_reducible rfl
            simp only [Act.put, List.getElem_toArray, List.getElem_cons_succ, List.getElem_cons_zero, List.setIfInBounds_toArray, List.set_cons_zero, List.set_cons_succ]
            refine wpDet_take (v := ?_) rfl (by kernel_rfl) (fun w0 hSw => ?_) ?_
            rotate_left 1
            · have y0 := (hSw.cell (p := ⟨G, 0, none⟩) hG).trans g0; have y1 := (hSw.cell (p := ⟨G, 1, none⟩) hG).trans g1
              go_simp
              with_reducible rfl
            simp only [Act.put, List.getElem_toArray, List.getElem_cons_succ, List.getElem_cons_zero, List.setIfInBounds_toArray, List.set_cons_zero, List.set_cons_succ]
            refine wpDet_take (v := ?_) rfl (by kernel_rfl) (fun w0 hSw => ?_) ?_
            rotate_left 1
            · have y0 := (hSw.cell (p := ⟨G, 0, none⟩) hG).trans g0; have y1 := (hSw.cell (p := ⟨G, 1, none⟩) hG).trans g1
              go_simp
              with_reducible rfl
            simp only [Act.put, List.getElem_toArray, List.getElem_cons_succ, List.getElem_cons_zero, List.setIfInBounds_toArray, List.set_cons_zero, List.set_cons_succ]
            refine wpDet_take (v := ?_) rfl (by kernel_rfl) (fun w0 hSw => ?_) ?_
            rotate_left 1
            · have y0 := (hSw.cell (p := ⟨G, 0, none⟩) hG).trans g0; have y1 := (hSw.cell (p := ⟨G, 1, none⟩) hG).trans g1
              go_simp
              with_reducible rfl
            simp only [Act.put, List.getElem_toArray, List.getElem_cons_succ, List.getElem_cons_zero, List.setIfInBounds_toArray, List.set_cons_zero, List.set_cons_succ]
            refine wpDet_skip rfl (by kernel_rfl) ?_
            simp only [Act.put, List.getElem_toArray, List.getElem_cons_succ, List.getElem_cons_zero, List.setIfInBounds_toArray, List.set_cons_zero, List.set_cons_succ]
            refine wpDet_skip rfl (by kernel_rfl) ?_
            simp only [Act.put, List.getElem_toArray, List.getElem_cons_succ, List.getElem_cons_zero, List.setIfInBounds_toArray, List.set_cons_zero, List.set_cons_succ]
            refine wpDet_skip rfl (by kernel_rfl) ?_
            simp only [Act.put, List.getElem_toArray, List.getElem_cons_succ, List.getElem_cons_zero, List.setIfInBounds_toArray, List.set_cons_zero, List.set_cons_succ]
            refine wpDet_skip rfl (by kernel_rfl) ?_
            simp only [Act.put, List.getElem_toArray, List.getElem_cons_succ, List.getElem_cons_zero, List.setIfInBounds_toArray, List.set_cons_zero, List.set_cons_succ]
            refine wpDet_skip rfl (by kernel_rfl) ?_
            simp only [Act.put, List.getElem_toArray, List.getElem_cons_succ, List.getElem_cons_zero, List.setIfInBounds_toArray, List.set_cons_zero, List.set_cons_succ]
            refine wpDet_take (v := ?_) rfl (by kernel_rfl) (fun w0 hSw => ?_) ?_
            rotate_left 1
            · have y0 := (hSw.cell (p := ⟨G, 0, none⟩) hG).trans g0; have y1 := (hSw.cell (p := ⟨G, 1, none⟩) hG).trans g1
              go_simp
              with_reducible rfl
            simp only [Act.put, List.getElem_toArray, List.getElem_cons_succ, List.getElem_cons_zero, List.setIfInBounds_toArray, List.set_cons_zero, List.set_cons_succ]
            refine wpDet_take (v := ?_) rfl (by kernel_rfl) (fun w0 hSw => ?_) ?_
            rotate_left 1
            · have y0 := (hSw.cell (p := ⟨G, 0, none⟩) hG).trans g0; have y1 := (hSw.cell (p := ⟨G, 1, none⟩) hG).trans g1
              go_simp
              with_reducible rfl
            simp only [Act.put, List.getElem_toArray, List.getElem_cons_succ, List.getElem_cons_zero, List.setIfInBounds_toArray, List.set_cons_zero, List.set_cons_succ]
            refine wpDet_skip rfl (by kernel_rfl) ?_
            simp only [Act.put, List.getElem_toArray, List.getElem_cons_succ, List.getElem_cons_zero, List.setIfInBounds_toArray, List.set_cons_zero, List.set_cons_succ]
            refine wpDet_skip rfl (by kernel_rfl) ?_
            simp only [Act.put, List.getElem_toArray, List.getElem_cons_succ, List.getElem_cons_zero, List.setIfInBounds_toArray, List.set_cons_zero, List.set_cons_succ]
            refine wpDet_skip rfl (by kernel_rfl) ?_
            simp only [Act.put, List.getElem_toArray, List.getElem_cons_succ, List.getElem_cons_zero, List.setIfInBounds_toArray, List.set_cons_zero, List.set_cons_succ]
            refine wpDet_take (v := ?_) rfl (by kernel_rfl) (fun w0 hSw => ?_) ?_
            rotate_left 1
            · have y0 := (hSw.cell (p := ⟨G, 0, none⟩) hG).trans g0; have y1 := (hSw.cell (p := ⟨G, 1, none⟩) hG).trans g1
              go_simp
              with_reducible rfl
            simp only [Act.put, List.getElem_toArray, List.getElem_cons_succ, List.getElem_cons_zero, List.setIfInBounds_toArray, List.set_cons_zero, List.set_cons_succ]
            refine wpDet_take (v := ?_) rfl (by kernel_rfl) (fun w0 hSw => ?_) ?_
            rotate_left 1
            · have y0 := (hSw.cell (p := ⟨G, 0, none⟩) hG).trans g0; have y1 := (hSw.cell (p := ⟨G, 1, none⟩) hG).trans g1
              go_simp
              with_reducible rfl
            simp only [Act.put, List.getElem_toArray, List.getElem_cons_succ, List.getElem_cons_zero, List.setIfInBounds_toArray, List.set_cons_zero, List.set_cons_succ]
            refine wpDet_skip rfl (by kernel_rfl) ?_
            simp only [Act.put, List.getElem_toArray, List.getElem_cons_succ, List.getElem_cons_zero, List.setIfInBounds_toArray, List.set_cons_zero, List.set_cons_succ]
            refine wpDet_skip rfl (by kernel_rfl) ?_
            simp only [Act.put, List.getElem_toArray, List.getElem_cons_succ, List.getElem_cons_zero, List.setIfInBounds_toArray, List.set_cons_zero, List.set_cons_succ]
            refine wpDet_skip rfl (by kernel_rfl) ?_
            simp only [Act.put, List.getElem_toArray, List.getElem_cons_succ, List.getElem_cons_zero, List.setIfInBounds_toArray, List.set_cons_zero, List.set_cons_succ]
            refine wpDet_skip rfl (by kernel_rfl) ?_
            simp only [Act.put, List.getElem_toArray, List.getElem_cons_succ, List.getElem_cons_zero, List.setIfInBounds_toArray, List.set_cons_zero, List.set_cons_succ]
            refine wpDet_skip rfl (by kernel_rfl) ?_
            simp only [Act.put, List.getElem_toArray, List.getElem_cons_succ, List.getElem_cons_zero, List.setIfInBounds_toArray, List.set_cons_zero, List.set_cons_succ]
            refine wpDet_skip rfl (by kernel_rfl) ?_
            simp only [Act.put, List.getElem_toArray, List.getElem_cons_succ, List.getElem_cons_zero, List.setIfInBounds_toArray, List.set_cons_zero, List.set_cons_succ]
            refine wpDet_skip rfl (by kernel_rfl) ?_
            simp only [Act.put, List.getElem_toArray, List.getElem_cons_succ, List.getElem_cons_zero, List.setIfInBounds_toArray, List.set_cons_zero, List.set_cons_succ]
            refine wpDet_skip rfl (by kernel_rfl) ?_
            simp only [Act.put, List.getElem_toArray, List.getElem_cons_succ, List.getElem_cons_zero, List.setIfInBounds_toArray, List.set_cons_zero, List.set_cons_succ]
            refine wpDet_skip rfl (by kernel_rfl) ?_
            simp only [Act.put, List.getElem_toArray, List.getElem_cons_succ, List.getElem_cons_zero, List.setIfInBounds_toArray, List.set_cons_zero, List.set_cons_succ]
            refine wpDet_skip rfl (by kernel_rfl) ?_
            simp only [Act.put, List.getElem_toArray, List.getElem_cons_succ, List.getElem_cons_zero, List.setIfInBounds_toArray, List.set_cons_zero, List.set_cons_succ]
            refine wpDet_skip rfl (by kernel_rfl) ?_
            simp only [Act.put, List.getElem_toArray, List.getElem_cons_succ, List.getElem_cons_zero, List.setIfInBounds_toArray, List.set_cons_zero, List.set_cons_succ]
            refine wpDet_skip rfl (by kernel_rfl) ?_
            simp only [Act.put, List.getElem_toArray, List.getElem_cons_succ, List.getElem_cons_zero, List.setIfInBounds_toArray, List.set_cons_zero, List.set_cons_succ]
            refine wpDet_skip rfl (by kernel_rfl) ?_
            simp only [Act.put, List.getElem_toArray, List.getElem_cons_succ, List.getElem_cons_zero, List.setIfInBounds_toArray, List.set_cons_zero, List.set_cons_succ]
            refine wpDet_done (fun V hV => ?_)
            have hBV := hBa.trans (hV.mono hBa.size)
            go_wp2
            go_ret
            exact ⟨by rw [calQ_no2 HN.out]; rfl, hBV⟩
          have z1 : decide (x.f < 0) = false := decide_eq_false q1
          by_cases q2 : x.u ≤ x.f
          · have hno : gapsB g = false := allN_false hlt (by rw [HGB.out, decide_eq_false (show ¬ x.f < x.u by omega), Bool.false_and, Bool.and_false])
            have HN := Lib.hid hno
            have z2 := decide_eq_true q2
            clear hno hpp2 hp0 q1 q2
            refine wp_region_det 29 (fun w0 => Below W.heap.size W w0) (by kernel_rfl) (by kernel_rfl) (Below.refl _ _).drew ?_
            refine wpDet_take (v := ?_) rfl (by kernel_rfl) (fun w0 hSw => ?_) ?_
            rotate_left 1
            · have y0 := (hSw.cell (p := ⟨G, 0, none⟩) hG).trans g0; have y1 := (hSw.cell (p := ⟨G, 1, none⟩) hG).trans g1
              go_simp
              with_reducible rfl
            simp only [Act.put, List.getElem_toArray, List.getElem_cons_succ, List.getElem_cons_zero, List.setIfInBounds_toArray, List.set_cons_zero, List.set_cons_succ]
            refine wpDet_take (v := ?_) rfl (by kernel_rfl) (fun w0 hSw => ?_) ?_
            rotate_left 1
            · have y0 := (hSw.cell (p := ⟨G, 0, none⟩) hG).trans g0; have y1 := (hSw.cell (p := ⟨G, 1, none⟩) hG).trans g1
              go_simp
              with_reducible rfl
            simp only [Act.put, List.getElem_toArray, List.getElem_cons_succ, List.getElem_cons_zero, List.setIfInBounds_toArray, List.set_cons_zero, List.set_cons_succ]
            refine wpDet_take (v := ?_) rfl (by kernel_rfl) (fun w0 hSw => ?_) ?_
            rotate_left 1
            · have y0 := (hSw.cell (p := ⟨G, 0, none⟩) hG).trans g0; have y1 := (hSw.cell (p := ⟨G, 1, none⟩) hG).trans g1
              go_simp
              with_reducible rfl
            simp only [Act.put, List.getElem_toArray, List.getElem_cons_succ, List.getElem_cons_zero, List.setIfInBounds_toArray, List.set_cons_zero, List.set_cons_succ]
            refine wpDet_take (v := ?_) rfl (by kernel_rfl) (fun w0 hSw => ?_) ?_
            rotate_left 1
            · have y0 := (hSw.cell (p := ⟨G, 0, none⟩) hG).trans g0; have y1 := (hSw.cell (p := ⟨G, 1, none⟩) hG).trans g1
              go_simp
              with_reducible rfl
            simp only [Act.put, List.getElem_toArray, List.getElem_cons_succ, List.getElem_cons_zero, List.setIfInBounds_toArray, List.set_cons_zero, List.set_cons_succ]
            refine wpDet_take (v := ?_) rfl (by kernel_rfl) (fun w0 hSw => ?_) ?_
            rotate_left 1
            · have y0 := (hSw.cell (p := ⟨G, 0, none⟩) hG).trans g0; have y1 := (hSw.cell (p := ⟨G, 1, none⟩) hG).trans g1
              go_simp
              with_reducible rfl
            simp only [Act.put, List.getElem_toArray, List.getElem_cons_succ, List.getElem_cons_zero, List.setIfInBounds_toArray, List.set_cons_zero, List.set_cons_succ]
            refine wpDet_take (v := ?_) rfl (by kernel_rfl) (fun w0 hSw => ?_) ?_
            rotate_left 1
            · have y0 := (hSw.cell (p := ⟨G, 0, none⟩) hG).trans g0; have y1 := (hSw.cell (p := ⟨G, 1, none⟩) hG).trans g1
              go_simp
              with_reducible rfl
            simp only [Act.put, List.getElem_toArray, List.getElem_cons_succ, List.getElem_cons_zero, List.setIfInBounds_toArray, List.set_cons_zero, List.set_cons_succ]
            refine wpDet_take (v := ?_) rfl (by kernel_rfl) (fun w0 hSw => ?_) ?_
            rotate_left 1
            · have y0 := (hSw.cell (p := ⟨G, 0, none⟩) hG).trans g0; have y1 := (hSw.cell (p := ⟨G, 1, none⟩) hG).trans g1
              go_simp
              with_reducible rfl
            simp only [Act.put, List.getElem_toArray, List.getElem_cons_succ, List.getElem_cons_zero, List.setIfInBounds_toArray, List.set_cons_zero, List.set_cons_succ]
            refine wpDet_take (v := ?_) rfl (by kernel_rfl) (fun w0 hSw => ?_) ?_
            rotate_left 1
            · have y0 := (hSw.cell (p := ⟨G, 0, none⟩) hG).trans g0; have y1 := (hSw.cell (p := ⟨G, 1, none⟩) hG).trans g1
              go_simp
              with_reducible rfl
            simp only [Act.put, List.getElem_toArray, List.getElem_cons_succ, List.getElem_cons_zero, List.setIfInBounds_toArray, List.set_cons_zero, List.set_cons_succ]
            refine wpDet_take (v := ?_) rfl (by kernel_rfl) (fun w0 hSw => ?_) ?_
            rotate_left 1
            · have y0 := (hSw.cell (p := ⟨G, 0, none⟩) hG).trans g0; have y1 := (hSw.cell (p := ⟨G, 1, none⟩) hG).trans g1
              go_simp
              with_reducible rfl
            simp only [Act.put, List.getElem_toArray, List.getElem_cons_succ, List.getElem_cons_zero, List.setIfInBounds_toArray, List.set_cons_zero, List.set_cons_succ]
            refine wpDet_take (v := ?_) rfl (by kernel_rfl) (fun w0 hSw => ?_) ?_
            rotate_left 1
            · have y0 := (hSw.cell (p := ⟨G, 0, none⟩) hG).trans g0; have y1 := (hSw.cell (p := ⟨G, 1, none⟩) hG).trans g1
              go_simp
              with_reducible rfl
            simp only [Act.put, List.getElem_toArray, List.getElem_cons_succ, List.getElem_cons_zero, List.setIfInBounds_toArray, List.set_cons_zero, List.set_cons_succ]
            refine wpDet_take (v := ?_) rfl (by kernel_rfl) (fun w0 hSw => ?_) ?_
            rotate_left 1
            · have y0 := (hSw.cell (p := ⟨G, 0, none⟩) hG).trans g0; have y1 := (hSw.cell (p := ⟨G, 1, none⟩) hG).trans g1
              go_simp
              with_reducible rfl
            simp only [Act.put, List.getElem_toArray, List.getElem_cons_succ, List.getElem_cons_zero, List.setIfInBounds_toArray, List.set_cons_zero, List.set_cons_succ]
            refine wpDet_skip rfl (by kernel_rfl) ?_
            simp only [Act.put, List.getElem_toArray, List.getElem_cons_succ, List.getElem_cons_zero, List.setIfInBounds_toArray, List.set_cons_zero, List.set_cons_succ]
            refine wpDet_skip rfl (by kernel_rfl) ?_
            simp only [Act.put, List.getElem_toArray, List.getElem_cons_succ, List.getElem_cons_zero, List.setIfInBounds_toArray, List.set_cons_zero, List.set_cons_succ]
            refine wpDet_skip rfl (by kernel_rfl) ?_
            simp only [Act.put, List.getElem_toArray, List.getElem_cons_succ, List.getElem_cons_zero, List.setIfInBounds_toArray, List.set_cons_zero, List.set_cons_succ]
            refine wpDet_take (v := ?_) rfl (by kernel_rfl) (fun w0 hSw => ?_) ?_
            rotate_left 1
            · have y0 := (hSw.cell (p := ⟨G, 0, none⟩) hG).trans g0; have y1 := (hSw.cell (p := ⟨G, 1, none⟩) hG).trans g1
              go_simp
              with_reducible rfl
            simp only [Act.put, List.getElem_toArray, List.getElem_cons_succ, List.getElem_cons_zero, List.setIfInBounds_toArray, List.set_cons_zero, List.set_cons_succ]
            refine wpDet_take (v := ?_) rfl (by kernel_rfl) (fun w0 hSw => ?_) ?_
            rotate_left 1
            · have y0 := (hSw.cell (p := ⟨G, 0, none⟩) hG).trans g0; have y1 := (hSw.cell (p := ⟨G, 1, none⟩) hG).trans g1
              go_simp
              with_reducible rfl
            simp only [Act.put, List.getElem_toArray, List.getElem_cons_succ, List.getElem_cons_zero, List.setIfInBounds_toArray, List.set_cons_zero, List.set_cons_succ]
            refine wpDet_skip rfl (by kernel_rfl) ?_
            simp only [Act.put, List.getElem_toArray, List.getElem_cons_succ, List.getElem_cons_zero, List.setIfInBounds_toArray, List.set_cons_zero, List.set_cons_succ]
            refine wpDet_skip rfl (by kernel_rfl) ?_
            simp only [Act.put, List.getElem_toArray, List.getElem_cons_succ, List.getElem_cons_zero, List.setIfInBounds_toArray, List.set_cons_zero, List.set_cons_succ]
            refine wpDet_skip rfl (by kernel_rfl) ?_
            simp only [Act.put, List.getElem_toArray, List.getElem_cons_succ, List.getElem_cons_zero, List.setIfInBounds_toArray, List.set_cons_zero, List.set_cons_succ]
            refine wpDet_skip rfl (by kernel_rfl) ?_
            simp only [Act.put, List.getElem_toArray, List.getElem_cons_succ, List.getElem_cons_zero, List.setIfInBounds_toArray, List.set_cons_zero, List.set_cons_succ]
            refine wpDet_skip rfl (by kernel_rfl) ?_
            simp only [Act.put, List.getElem_toArray, List.getElem_cons_succ, List.getElem_cons_zero, List.setIfInBounds_toArray, List.set_cons_zero, List.set_cons_succ]
            refine wpDet_skip rfl (by kernel_rfl) ?_
            simp only [Act.put, List.getElem_toArray, List.getElem_cons_succ, List.getElem_cons_zero, List.setIfInBounds_toArray, List.set_cons_zero, List.set_cons_succ]
            refine wpDet_skip rfl (by kernel_rfl) ?_
            simp only [Act.put, List.getElem_toArray, List.getElem_cons_succ, List.getElem_cons_zero, List.setIfInBounds_toArray, List.set_cons_zero, List.set_cons_succ]
            refine wpDet_skip rfl (by kernel_rfl) ?_
            simp only [Act.put, List.getElem_toArray, List.getElem_cons_succ, List.getElem_cons_zero, List.setIfInBounds_toArray, List.set_cons_zero, List.set_cons_succ]
            refine wpDet_skip rfl (by kernel_rfl) ?_
            simp only [Act.put, List.getElem_toArray, List.getElem_cons_succ, List.getElem_cons_zero, List.setIfInBounds_toArray, List.set_cons_zero, List.set_cons_succ]
            refine wpDet_skip rfl (by kernel_rfl) ?_
            simp only [Act.put, List.getElem_toArray, List.getElem_cons_succ, List.getElem_cons_zero, List.setIfInBounds_toArray, List.set_cons_zero, List.set_cons_succ]
            refine wpDet_skip rfl (by kernel_rfl) ?_
            simp only [Act.put, List.getElem_toArray, List.getElem_cons_succ, List.getElem_cons_zero, List.setIfInBounds_toArray, List.set_cons_zero, List.set_cons_succ]
            refine wpDet_skip rfl (by kernel_rfl) ?_
            simp only [Act.put, List.getElem_toArray, List.getElem_cons_succ, List.getElem_cons_zero, List.setIfInBounds_toArray, List.set_cons_zero, List.set_cons_succ]
            refine wpDet_skip rfl (by kernel_rfl) ?_
            simp only [Act.put, List.getElem_toArray, List.getElem_cons_succ, List.getElem_cons_zero, List.setIfInBounds_toArray, List.set_cons_zero, List.set_cons_succ]
            refine wpDet_done (fun V hV => ?_)
            have hBV := hBa.trans (hV.mono hBa.size)
            go_wp2
            go_ret
            exact ⟨by rw [calQ_no2 HN.out]; rfl, hBV⟩
          have z2 : decide (x.u ≤ x.f) = false := decide_eq_false q2
          by_cases q3 : 2097152 < x.u
          · have hno : gapsB g = false := allN_false hlt (by rw [HGB.out, decide_eq_false (show ¬ x.u ≤ 2097152 by omega), Bool.and_false, Bool.and_false])
            have HN := Lib.hid hno
            have z3 := decide_eq_true q3
            clear hno hpp2 hp0 q1 q2 q3
            refine wp_region_det 29 (fun w0 => Below W.heap.size W w0) (by kernel_rfl) (by kernel_rfl) (Below.refl _ _).drew ?_
            refine wpDet_take (v := ?_) rfl (by kernel_rfl) (fun w0 hSw => ?_) ?_
            rotate_left 1
            · have y0 := (hSw.cell (p := ⟨G, 0, none⟩) hG).trans g0; have y1 := (hSw.cell (p := ⟨G, 1, none⟩) hG).trans g1
              go_simp
              with_reducible rfl
            simp only [Act.put, List.getElem_toArray, List.getElem_cons_succ, List.getElem_cons_zero, List.setIfInBounds_toArray, List.set_cons_zero, List.set_cons_succ]
            refine wpDet_take (v := ?_) rfl (by kernel_rfl) (fun w0 hSw => ?_) ?_
            rotate_left 1
            · have y0 := (hSw.cell (p := ⟨G, 0, none⟩) hG).trans g0; have y1 := (hSw.cell (p := ⟨G, 1, none⟩) hG).trans g1
              go_simp
              with_reducible rfl
            simp only [Act.put, List.getElem_toArray, List.getElem_cons_succ, List.getElem_cons_zero, List.setIfInBounds_toArray, List.set_cons_zero, List.set_cons_succ]
            refine wpDet_take (v := ?_) rfl (by kernel_rfl) (fun w0 hSw => ?_) ?_
            rotate_left 1
            · have y0 := (hSw.cell (p := ⟨G, 0, none⟩) hG).trans g0; have y1 := (hSw.cell (p := ⟨G, 1, none⟩) hG).trans g1
              go_simp
              with_reducible rfl
            simp only [Act.put, List.getElem_toArray, List.getElem_cons_succ, List.getElem_cons_zero, List.setIfInBounds_toArray, List.set_cons_zero, List.set_cons_succ]
            refine wpDet_take (v := ?_) rfl (by kernel_rfl) (fun w0 hSw => ?_) ?_
            rotate_left 1
            · have y0 := (hSw.cell (p := ⟨G, 0, none⟩) hG).trans g0; have y1 := (hSw.cell (p := ⟨G, 1, none⟩) hG).trans g1
              go_simp
              with_reducible rfl
            simp only [Act.put, List.getElem_toArray, List.getElem_cons_succ, List.getElem_cons_zero, List.setIfInBounds_toArray, List.set_cons_zero, List.set_cons_succ]
            refine wpDet_take (v := ?_) rfl (by kernel_rfl) (fun w0 hSw => ?_) ?_
            rotate_left 1
            · have y0 := (hSw.cell (p := ⟨G, 0, none⟩) hG).trans g0; have y1 := (hSw.cell (p := ⟨G, 1, none⟩) hG).trans g1
              go_simp
              with_reducible rfl
            simp only [Act.put, List.getElem_toArray, List.getElem_cons_succ, List.getElem_cons_zero, List.setIfInBounds_toArray, List.set_cons_zero, List.set_cons_succ]
            refine wpDet_take (v := ?_) rfl (by kernel_rfl) (fun w0 hSw => ?_) ?_
            rotate_left 1
            · have y0 := (hSw.cell (p := ⟨G, 0, none⟩) hG).trans g0; have y1 := (hSw.cell (p := ⟨G, 1, none⟩) hG).trans g1
              go_simp
              with_reducible rfl
            simp only [Act.put, List.getElem_toArray, List.getElem_cons_succ, List.getElem_cons_zero, List.setIfInBounds_toArray, List.set_cons_zero, List.set_cons_succ]
            refine wpDet_take (v := ?_) rfl (by kernel_rfl) (fun w0 hSw => ?_) ?_
            rotate_left 1
            · have y0 := (hSw.cell (p := ⟨G, 0, none⟩) hG).trans g0; have y1 := (hSw.cell (p := ⟨G, 1, none⟩) hG).trans g1
              go_simp
              with_reducible rfl
            simp only [Act.put, List.getElem_toArray, List.getElem_cons_succ, List.getElem_cons_zero, List.setIfInBounds_toArray, List.set_cons_zero, List.set_cons_succ]
            refine wpDet_take (v := ?_) rfl (by kernel_rfl) (fun w0 hSw => ?_) ?_
            rotate_left 1
            · have y0 := (hSw.cell (p := ⟨G, 0, none⟩) hG).trans g0; have y1 := (hSw.cell (p := ⟨G, 1, none⟩) hG).trans g1
              go_simp
              with_reducible rfl
            simp only [Act.put, List.getElem_toArray, List.getElem_cons_succ, List.getElem_cons_zero, List.setIfInBounds_toArray, List.set_cons_zero, List.set_cons_succ]
            refine wpDet_take (v := ?_) rfl (by kernel_rfl) (fun w0 hSw => ?_) ?_
            rotate_left 1
            · have y0 := (hSw.cell (p := ⟨G, 0, none⟩) hG).trans g0; have y1 := (hSw.cell (p := ⟨G, 1, none⟩) hG).trans g1
              go_simp
              with_reducible rfl
            simp only [Act.put, List.getElem_toArray, List.getElem_cons_succ, List.getElem_cons_zero, List.setIfInBounds_toArray, List.set_cons_zero, List.set_cons_succ]
            refine wpDet_take (v := ?_) rfl (by kernel_rfl) (fun w0 hSw => ?_) ?_
            rotate_left 1
            · have y0 := (hSw.cell (p := ⟨G, 0, none⟩) hG).trans g0; have y1 := (hSw.cell (p := ⟨G, 1, none⟩) hG).trans g1
              go_simp
              with_reducible rfl
            simp only [Act.put, List.getElem_toArray, List.getElem_cons_succ, List.getElem_cons_zero, List.setIfInBounds_toArray, List.set_cons_zero, List.set_cons_succ]
            refine wpDet_take (v := ?_) rfl (by kernel_rfl) (fun w0 hSw => ?_) ?_
            rotate_left 1
            · have y0 := (hSw.cell (p := ⟨G, 0, none⟩) hG).trans g0; have y1 := (hSw.cell (p := ⟨G, 1, none⟩) hG).trans g1
              go_simp
              with_reducible rfl
            simp only [Act.put, List.getElem_toArray, List.getElem_cons_succ, List.getElem_cons_zero, List.setIfInBounds_toArray, List.set_cons_zero, List.set_cons_succ]
            refine wpDet_take (v := ?_) rfl (by kernel_rfl) (fun w0 hSw => ?_) ?_
            rotate_left 1
            · have y0 := (hSw.cell (p := ⟨G, 0, none⟩) hG).trans g0; have y1 := (hSw.cell (p := ⟨G, 1, none⟩) hG).trans g1
              go_simp
              with_reducible rfl
            simp only [Act.put, List.getElem_toArray, List.getElem_cons_succ, List.getElem_cons_zero, List.setIfInBounds_toArray, List.set_cons_zero, List.set_cons_succ]
            refine wpDet_take (v := ?_) rfl (by kernel_rfl) (fun w0 hSw => ?_) ?_
            rotate_left 1
            · have y0 := (hSw.cell (p := ⟨G, 0, none⟩) hG).trans g0; have y1 := (hSw.cell (p := ⟨G, 1, none⟩) hG).trans g1
              go_simp
              with_reducible rfl
            simp only [Act.put, List.getElem_toArray, List.getElem_cons_succ, List.getElem_cons_zero, List.setIfInBounds_toArray, List.set_cons_zero, List.set_cons_succ]
            refine wpDet_take (v := ?_) rfl (by kernel_rfl) (fun w0 hSw => ?_) ?_
            rotate_left 1
            · have y0 := (hSw.cell (p := ⟨G, 0, none⟩) hG).trans g0; have y1 := (hSw.cell (p := ⟨G, 1, none⟩) hG).trans g1
              go_simp
              with_reducible rfl
            simp only [Act.put, List.getElem_toArray, List.getElem_cons_succ, List.getElem_cons_zero, List.setIfInBounds_toArray, List.set_cons_zero, List.set_cons_succ]
            refine wpDet_take (v := ?_) rfl (by kernel_rfl) (fun w0 hSw => ?_) ?_
            rotate_left 1
            · have y0 := (hSw.cell (p := ⟨G, 0, none⟩) hG).trans g0; have y1 := (hSw.cell (p := ⟨G, 1, none⟩) hG).trans g1
              go_simp
              with_reducible rfl
            simp only [Act.put, List.getElem_toArray, List.getElem_cons_succ, List.getElem_cons_zero, List.setIfInBounds_toArray, List.set_cons_zero, List.set_cons_succ]
            refine wpDet_take (v := ?_) rfl (by kernel_rfl) (fun w0 hSw => ?_) ?_
            rotate_left 1
            · have y0 := (hSw.cell (p := ⟨G, 0, none⟩) hG).trans g0; have y1 := (hSw.cell (p := ⟨G, 1, none⟩) hG).trans g1
              go_simp
              with_reducible rfl
            simp only [Act.put, List.getElem_toArray, List.getElem_cons_succ, List.getElem_cons_zero, List.setIfInBounds_toArray, List.set_cons_zero, List.set_cons_succ]
            refine wpDet_skip rfl (by kernel_rfl) ?_
            simp only [Act.put, List.getElem_toArray, List.getElem_cons_succ, List.getElem_cons_zero, List.setIfInBounds_toArray, List.set_cons_zero, List.set_cons_succ]
            refine wpDet_skip rfl (by kernel_rfl) ?_
            simp only [Act.put, List.getElem_toArray, List.getElem_cons_succ, List.getElem_cons_zero, List.setIfInBounds_toArray, List.set_cons_zero, List.set_cons_succ]
            refine wpDet_skip rfl (by kernel_rfl) ?_
            simp only [Act.put, List.getElem_toArray, List.getElem_cons_succ, List.getElem_cons_zero, List.setIfInBounds_toArray, List.set_cons_zero, List.set_cons_succ]
            refine wpDet_skip rfl (by kernel_rfl) ?_
            simp only [Act.put, List.getElem_toArray, List.getElem_cons_succ, List.getElem_cons_zero, List.setIfInBounds_toArray, List.set_cons_zero, List.set_cons_succ]
            refine wpDet_skip rfl (by kernel_rfl) ?_
            simp only [Act.put, List.getElem_toArray, List.getElem_cons_succ, List.getElem_cons_zero, List.setIfInBounds_toArray, List.set_cons_zero, List.set_cons_succ]
            refine wpDet_skip rfl (by kernel_rfl) ?_
            simp only [Act.put, List.getElem_toArray, List.getElem_cons_succ, List.getElem_cons_zero, List.setIfInBounds_toArray, List.set_cons_zero, List.set_cons_succ]
            refine wpDet_skip rfl (by kernel_rfl) ?_
            simp only [Act.put, List.getElem_toArray, List.getElem_cons_succ, List.getElem_cons_zero, List.setIfInBounds_toArray, List.set_cons_zero, List.set_cons_succ]
            refine wpDet_skip rfl (by kernel_rfl) ?_
            simp only [Act.put, List.getElem_toArray, List.getElem_cons_succ, List.getElem_cons_zero, List.setIfInBounds_toArray, List.set_cons_zero, List.set_cons_succ]
            refine wpDet_skip rfl (by kernel_rfl) ?_
            simp only [Act.put, List.getElem_toArray, List.getElem_cons_succ, List.getElem_cons_zero, List.setIfInBounds_toArray, List.set_cons_zero, List.set_cons_succ]
            refine wpDet_skip rfl (by kernel_rfl) ?_
            simp only [Act.put, List.getElem_toArray, List.getElem_cons_succ, List.getElem_cons_zero, List.setIfInBounds_toArray, List.set_cons_zero, List.set_cons_succ]
            refine wpDet_skip rfl (by kernel_rfl) ?_
            simp only [Act.put, List.getElem_toArray, List.getElem_cons_succ, List.getElem_cons_zero, List.setIfInBounds_toArray, List.set_cons_zero, List.set_cons_succ]
            refine wpDet_skip rfl (by kernel_rfl) ?_
            simp only [Act.put, List.getElem_toArray, List.getElem_cons_succ, List.getElem_cons_zero, List.setIfInBounds_toArray, List.set_cons_zero, List.set_cons_succ]
            refine wpDet_skip rfl (by kernel_rfl) ?_
            simp only [Act.put, List.getElem_toArray, List.getElem_cons_succ, List.getElem_cons_zero, List.setIfInBounds_toArray, List.set_cons_zero, List.set_cons_succ]
            refine wpDet_done (fun V hV => ?_)
            have hBV := hBa.trans (hV.mono hBa.size)
            go_wp2
            go_ret
            exact ⟨by rw [calQ_no2 HN.out]; rfl, hBV⟩
          have z3 : decide (2097152 < x.u) = false := decide_eq_false q3
          by_cases q4 : k = 0
          · have hbm := hp0 q4
            have hyy : gapB g k = true := by rw [HGB.out, decide_eq_true (show bb < x.f by omega), decide_eq_true (show x.f < x.u by omega), decide_eq_true (show x.u ≤ 2097152 by omega)]; rfl
            have HYY := Lib.hid hyy
            have z4 : decide (0 < (k : Int)) = false := decide_eq_false (by omega)
            have z5 : ¬ 0 < k := by omega
            clear hyy hpp2 hp0 q1 q2 q3 hbm
            have HK := Lib.hid q4
            clear q4
            refine wp_region_det 29 (fun w0 => Below W.heap.size W w0) (by kernel_rfl) (by kernel_rfl) (Below.refl _ _).drew ?_
            refine wpDet_take (v := ?_) rfl (by kernel_rfl) (fun w0 hSw => ?_) ?_
            rotate_left 1
            · have y0 := (hSw.cell (p := ⟨G, 0, none⟩) hG).trans g0; have y1 := (hSw.cell (p := ⟨G, 1, none⟩) hG).trans g1
              go_simp
              with_reducible rfl
            simp only [Act.put, List.getElem_toArray, List.getElem_cons_succ, List.getElem_cons_zero, List.setIfInBounds_toArray, List.set_cons_zero, List.set_cons_succ]
            refine wpDet_take (v := ?_) rfl (by kernel_rfl) (fun w0 hSw => ?_) ?_
            rotate_left 1
            · have y0 := (hSw.cell (p := ⟨G, 0, none⟩) hG).trans g0; have y1 := (hSw.cell (p := ⟨G, 1, none⟩) hG).trans g1
              go_simp
              with_reducible rfl
            simp only [Act.put, List.getElem_toArray, List.getElem_cons_succ, List.getElem_cons_zero, List.setIfInBounds_toArray, List.set_cons_zero, List.set_cons_succ]
            refine wpDet_take (v := ?_) rfl (by kernel_rfl) (fun w0 hSw => ?_) ?_
            rotate_left 1
            · have y0 := (hSw.cell (p := ⟨G, 0, none⟩) hG).trans g0; have y1 := (hSw.cell (p := ⟨G, 1, none⟩) hG).trans g1
              go_simp
              with_reducible rfl
            simp only [Act.put, List.getElem_toArray, List.getElem_cons_succ, List.getElem_cons_zero, List.setIfInBounds_toArray, List.set_cons_zero, List.set_cons_succ]
            refine wpDet_take (v := ?_) rfl (by kernel_rfl) (fun w0 hSw => ?_) ?_
            rotate_left 1
            · have y0 := (hSw.cell (p := ⟨G, 0, none⟩) hG).trans g0; have y1 := (hSw.cell (p := ⟨G, 1, none⟩) hG).trans g1
              go_simp
              with_reducible rfl
            simp only [Act.put, List.getElem_toArray, List.getElem_cons_succ, List.getElem_cons_zero, List.setIfInBounds_toArray, List.set_cons_zero, List.set_cons_succ]
            refine wpDet_take (v := ?_) rfl (by kernel_rfl) (fun w0 hSw => ?_) ?_
            rotate_left 1
            · have y0 := (hSw.cell (p := ⟨G, 0, none⟩) hG).trans g0; have y1 := (hSw.cell (p := ⟨G, 1, none⟩) hG).trans g1
              go_simp
              with_reducible rfl
            simp only [Act.put, List.getElem_toArray, List.getElem_cons_succ, List.getElem_cons_zero, List.setIfInBounds_toArray, List.set_cons_zero, List.set_cons_succ]
            refine wpDet_take (v := ?_) rfl (by kernel_rfl) (fun w0 hSw => ?_) ?_
            rotate_left 1
            · have y0 := (hSw.cell (p := ⟨G, 0, none⟩) hG).trans g0; have y1 := (hSw.cell (p := ⟨G, 1, none⟩) hG).trans g1
              go_simp
              with_reducible rfl
            simp only [Act.put, List.getElem_toArray, List.getElem_cons_succ, List.getElem_cons_zero, List.setIfInBounds_toArray, List.set_cons_zero, List.set_cons_succ]
            refine wpDet_take (v := ?_) rfl (by kernel_rfl) (fun w0 hSw => ?_) ?_
            rotate_left 1
            · have y0 := (hSw.cell (p := ⟨G, 0, none⟩) hG).trans g0; have y1 := (hSw.cell (p := ⟨G, 1, none⟩) hG).trans g1
              go_simp
              with_reducible rfl
            simp only [Act.put, List.getElem_toArray, List.getElem_cons_succ, List.getElem_cons_zero, List.setIfInBounds_toArray, List.set_cons_zero, List.set_cons_succ]
            refine wpDet_take (v := ?_) rfl (by kernel_rfl) (fun w0 hSw => ?_) ?_
            rotate_left 1
            · have y0 := (hSw.cell (p := ⟨G, 0, none⟩) hG).trans g0; have y1 := (hSw.cell (p := ⟨G, 1, none⟩) hG).trans g1
              go_simp
              with_reducible rfl
            simp only [Act.put, List.getElem_toArray, List.getElem_cons_succ, List.getElem_cons_zero, List.setIfInBounds_toArray, List.set_cons_zero, List.set_cons_succ]
            refine wpDet_take (v := ?_) rfl (by kernel_rfl) (fun w0 hSw => ?_) ?_
            rotate_left 1
            · have y0 := (hSw.cell (p := ⟨G, 0, none⟩) hG).trans g0; have y1 := (hSw.cell (p := ⟨G, 1, none⟩) hG).trans g1
              go_simp
              with_reducible rfl
            simp only [Act.put, List.getElem_toArray, List.getElem_cons_succ, List.getElem_cons_zero, List.setIfInBounds_toArray, List.set_cons_zero, List.set_cons_succ]
            refine wpDet_take (v := ?_) rfl (by kernel_rfl) (fun w0 hSw => ?_) ?_
            rotate_left 1
            · have y0 := (hSw.cell (p := ⟨G, 0, none⟩) hG).trans g0; have y1 := (hSw.cell (p := ⟨G, 1, none⟩) hG).trans g1
              go_simp
              with_reducible rfl
            simp only [Act.put, List.getElem_toArray, List.getElem_cons_succ, List.getElem_cons_zero, List.setIfInBounds_toArray, List.set_cons_zero, List.set_cons_succ]
            refine wpDet_take (v := ?_) rfl (by kernel_rfl) (fun w0 hSw => ?_) ?_
            rotate_left 1
            · have y0 := (hSw.cell (p := ⟨G, 0, none⟩) hG).trans g0; have y1 := (hSw.cell (p := ⟨G, 1, none⟩) hG).trans g1
              go_simp
              with_reducible rfl
            simp only [Act.put, List.getElem_toArray, List.getElem_cons_succ, List.getElem_cons_zero, List.setIfInBounds_toArray, List.set_cons_zero, List.set_cons_succ]
            refine wpDet_take (v := ?_) rfl (by kernel_rfl) (fun w0 hSw => ?_) ?_
            rotate_left 1
            · have y0 := (hSw.cell (p := ⟨G, 0, none⟩) hG).trans g0; have y1 := (hSw.cell (p := ⟨G, 1, none⟩) hG).trans g1
              go_simp
              with_reducible rfl
            simp only [Act.put, List.getElem_toArray, List.getElem_cons_succ, List.getElem_cons_zero, List.setIfInBounds_toArray, List.set_cons_zero, List.set_cons_succ]
            refine wpDet_take (v := ?_) rfl (by kernel_rfl) (fun w0 hSw => ?_) ?_
            rotate_left 1
            · have y0 := (hSw.cell (p := ⟨G, 0, none⟩) hG).trans g0; have y1 := (hSw.cell (p := ⟨G, 1, none⟩) hG).trans g1
              go_simp
              with_reducible rfl
            simp only [Act.put, List.getElem_toArray, List.getElem_cons_succ, List.getElem_cons_zero, List.setIfInBounds_toArray, List.set_cons_zero, List.set_cons_succ]
            refine wpDet_take (v := ?_) rfl (by kernel_rfl) (fun w0 hSw => ?_) ?_
            rotate_left 1
            · have y0 := (hSw.cell (p := ⟨G, 0, none⟩) hG).trans g0; have y1 := (hSw.cell (p := ⟨G, 1, none⟩) hG).trans g1
              go_simp
              with_reducible rfl
            simp only [Act.put, List.getElem_toArray, List.getElem_cons_succ, List.getElem_cons_zero, List.setIfInBounds_toArray, List.set_cons_zero, List.set_cons_succ]
            refine wpDet_take (v := ?_) rfl (by kernel_rfl) (fun w0 hSw => ?_) ?_
            rotate_left 1
            · have y0 := (hSw.cell (p := ⟨G, 0, none⟩) hG).trans g0; have y1 := (hSw.cell (p := ⟨G, 1, none⟩) hG).trans g1
              go_simp
              with_reducible rfl
            simp only [Act.put, List.getElem_toArray, List.getElem_cons_succ, List.getElem_cons_zero, List.setIfInBounds_toArray, List.set_cons_zero, List.set_cons_succ]
            refine wpDet_take (v := ?_) rfl (by kernel_rfl) (fun w0 hSw => ?_) ?_
            rotate_left 1
            · have y0 := (hSw.cell (p := ⟨G, 0, none⟩) hG).trans g0; have y1 := (hSw.cell (p := ⟨G, 1, none⟩) hG).trans g1
              go_simp
              with_reducible rfl
            simp only [Act.put, List.getElem_toArray, List.getElem_cons_succ, List.getElem_cons_zero, List.setIfInBounds_toArray, List.set_cons_zero, List.set_cons_succ]
            refine wpDet_take (v := ?_) rfl (by kernel_rfl) (fun w0 hSw => ?_) ?_
            rotate_left 1
            · have y0 := (hSw.cell (p := ⟨G, 0, none⟩) hG).trans g0; have y1 := (hSw.cell (p := ⟨G, 1, none⟩) hG).trans g1
              go_simp
              with_reducible rfl
            simp only [Act.put, List.getElem_toArray, List.getElem_cons_succ, List.getElem_cons_zero, List.setIfInBounds_toArray, List.set_cons_zero, List.set_cons_succ]
            refine wpDet_take (v := ?_) rfl (by kernel_rfl) (fun w0 hSw => ?_) ?_
            rotate_left 1
            · have y0 := (hSw.cell (p := ⟨G, 0, none⟩) hG).trans g0; have y1 := (hSw.cell (p := ⟨G, 1, none⟩) hG).trans g1
              go_simp
              with_reducible rfl
            simp only [Act.put, List.getElem_toArray, List.getElem_cons_succ, List.getElem_cons_zero, List.setIfInBounds_toArray, List.set_cons_zero, List.set_cons_succ]
            refine wpDet_take (v := ?_) rfl (by kernel_rfl) (fun w0 hSw => ?_) ?_
            rotate_left 1
            · have y0 := (hSw.cell (p := ⟨G, 0, none⟩) hG).trans g0; have y1 := (hSw.cell (p := ⟨G, 1, none⟩) hG).trans g1
              go_simp
              with_reducible rfl
            simp only [Act.put, List.getElem_toArray, List.getElem_cons_succ, List.getElem_cons_zero, List.setIfInBounds_toArray, List.set_cons_zero, List.set_cons_succ]
            refine wpDet_skip rfl (by kernel_rfl) ?_
            simp only [Act.put, List.getElem_toArray, List.getElem_cons_succ, List.getElem_cons_zero, List.setIfInBounds_toArray, List.set_cons_zero, List.set_cons_succ]
            refine wpDet_skip rfl (by kernel_rfl) ?_
            simp only [Act.put, List.getElem_toArray, List.getElem_cons_succ, List.getElem_cons_zero, List.setIfInBounds_toArray, List.set_cons_zero, List.set_cons_succ]
            refine wpDet_skip rfl (by kernel_rfl) ?_
            simp only [Act.put, List.getElem_toArray, List.getElem_cons_succ, List.getElem_cons_zero, List.setIfInBounds_toArray, List.set_cons_zero, List.set_cons_succ]
            refine wpDet_skip rfl (by kernel_rfl) ?_
            simp only [Act.put, List.getElem_toArray, List.getElem_cons_succ, List.getElem_cons_zero, List.setIfInBounds_toArray, List.set_cons_zero, List.set_cons_succ]
            refine wpDet_skip rfl (by kernel_rfl) ?_
            simp only [Act.put, List.getElem_toArray, List.getElem_cons_succ, List.getElem_cons_zero, List.setIfInBounds_toArray, List.set_cons_zero, List.set_cons_succ]
            refine wpDet_skip rfl (by kernel_rfl) ?_
            simp only [Act.put, List.getElem_toArray, List.getElem_cons_succ, List.getElem_cons_zero, List.setIfInBounds_toArray, List.set_cons_zero, List.set_cons_succ]
            refine wpDet_skip rfl (by kernel_rfl) ?_
            simp only [Act.put, List.getElem_toArray, List.getElem_cons_succ, List.getElem_cons_zero, List.setIfInBounds_toArray, List.set_cons_zero, List.set_cons_succ]
            refine wpDet_skip rfl (by kernel_rfl) ?_
            simp only [Act.put, List.getElem_toArray, List.getElem_cons_succ, List.getElem_cons_zero, List.setIfInBounds_toArray, List.set_cons_zero, List.set_cons_succ]
            refine wpDet_skip rfl (by kernel_rfl) ?_
            simp only [Act.put, List.getElem_toArray, List.getElem_cons_succ, List.getElem_cons_zero, List.setIfInBounds_toArray, List.set_cons_zero, List.set_cons_succ]
            refine wpDet_take (v := .bool false) rfl (by kernel_rfl) (fun w0 hSw => ?_) ?_
            · have y0 := (hSw.cell (p := ⟨G, 0, none⟩) hG).trans g0; have y1 := (hSw.cell (p := ⟨G, 1, none⟩) hG).trans g1
              go_simp
            simp only [Act.put, List.getElem_toArray, List.getElem_cons_succ, List.getElem_cons_zero, List.setIfInBounds_toArray, List.set_cons_zero, List.set_cons_succ]
            refine wpDet_done (fun V hV => ?_)
            have hBV := hBa.trans (hV.mono hBa.size)
            go_wp2
            go_roundg (gk - 1)
            case measure => omega
            case rel => exact ⟨k + 1, by first | rfl | go_num, by omega, hBV, fun q hq => by
              by_cases hqk : q = k
              · subst hqk; exact HYY.out
              · exact HA2.out q (by omega)⟩
          have z4 : decide (0 < (k : Int)) = true := decide_eq_true (by omega)
          obtain ⟨k', rfl⟩ : ∃ k', k = k' + 1 := ⟨k - 1, by omega⟩
          have p1 := hpp2 (by omega)
          rw [Nat.add_sub_cancel] at p1
          have t1 : ((k' + 1 : Nat) : Int) - 1 = (k' : Int) := by omega
          have t2 : IntKind.i64.wrap (k' : Int) = (k' : Int) := IntWalk.i64_in _ (by have := HG.out.1; omega)
          have t3 : (0 : Int) ≤ (k' : Int) := by omega
          have t4 : (k' : Int) < (g.length : Int) := by omega
          clear hpp2 hp0 q4
          by_cases q5 : x.f ≤ bb
          · have hno : gapsB g = false := allN_false hlt (by rw [HGB.out, decide_eq_false (show ¬ bb < x.f by omega)]; rfl)
            have HN := Lib.hid hno
            have z5 := decide_eq_true q5
            clear hno q1 q2 q3 q5
            refine wp_region_det 29 (fun w0 => Below W.heap.size W w0) (by kernel_rfl) (by kernel_rfl) (Below.refl _ _).drew ?_
            refine wpDet_take (v := ?_) rfl (by kernel_rfl) (fun w0 hSw => ?_) ?_
            rotate_left 1
            · have y0 := (hSw.cell (p := ⟨G, 0, none⟩) hG).trans g0; have y1 := (hSw.cell (p := ⟨G, 1, none⟩) hG).trans g1; have y2 := (hSw.cell (p := ⟨b, off + k' * 2 + 1, none⟩) hbw).trans p1
              go_simp
              with_reducible rfl
            simp only [Act.put, List.getElem_toArray, List.getElem_cons_succ, List.getElem_cons_zero, List.setIfInBounds_toArray, List.set_cons_zero, List.set_cons_succ]
            refine wpDet_take (v := ?_) rfl (by kernel_rfl) (fun w0 hSw => ?_) ?_
            rotate_left 1
            · have y0 := (hSw.cell (p := ⟨G, 0, none⟩) hG).trans g0; have y1 := (hSw.cell (p := ⟨G, 1, none⟩) hG).trans g1; have y2 := (hSw.cell (p := ⟨b, off + k' * 2 + 1, none⟩) hbw).trans p1
              go_simp
              with_reducible rfl
            simp only [Act.put, List.getElem_toArray, List.getElem_cons_succ, List.getElem_cons_zero, List.setIfInBounds_toArray, List.set_cons_zero, List.set_cons_succ]
            refine wpDet_take (v := ?_) rfl (by kernel_rfl) (fun w0 hSw => ?_) ?_
            rotate_left 1
            · have y0 := (hSw.cell (p := ⟨G, 0, none⟩) hG).trans g0; have y1 := (hSw.cell (p := ⟨G, 1, none⟩) hG).trans g1; have y2 := (hSw.cell (p := ⟨b, off + k' * 2 + 1, none⟩) hbw).trans p1
              go_simp
              with_reducible rfl
            simp only [Act.put, List.getElem_toArray, List.getElem_cons_succ, List.getElem_cons_zero, List.setIfInBounds_toArray, List.set_cons_zero, List.set_cons_succ]
            refine wpDet_take (v := ?_) rfl (by kernel_rfl) (fun w0 hSw => ?_) ?_
            rotate_left 1
            · have y0 := (hSw.cell (p := ⟨G, 0, none⟩) hG).trans g0; have y1 := (hSw.cell (p := ⟨G, 1, none⟩) hG).trans g1; have y2 := (hSw.cell (p := ⟨b, off + k' * 2 + 1, none⟩) hbw).trans p1
              go_simp
              with_reducible rfl
            simp only [Act.put, List.getElem_toArray, List.getElem_cons_succ, List.getElem_cons_zero, List.setIfInBounds_toArray, List.set_cons_zero, List.set_cons_succ]
            refine wpDet_take (v := ?_) rfl (by kernel_rfl) (fun w0 hSw => ?_) ?_
            rotate_left 1
            · have y0 := (hSw.cell (p := ⟨G, 0, none⟩) hG).trans g0; have y1 := (hSw.cell (p := ⟨G, 1, none⟩) hG).trans g1; have y2 := (hSw.cell (p := ⟨b, off + k' * 2 + 1, none⟩) hbw).trans p1
              go_simp
              with_reducible rfl
            simp only [Act.put, List.getElem_toArray, List.getElem_cons_succ, List.getElem_cons_zero, List.setIfInBounds_toArray, List.set_cons_zero, List.set_cons_succ]
            refine wpDet_take (v := ?_) rfl (by kernel_rfl) (fun w0 hSw => ?_) ?_
            rotate_left 1
            · have y0 := (hSw.cell (p := ⟨G, 0, none⟩) hG).trans g0; have y1 := (hSw.cell (p := ⟨G, 1, none⟩) hG).trans g1; have y2 := (hSw.cell (p := ⟨b, off + k' * 2 + 1, none⟩) hbw).trans p1
              go_simp
              with_reducible rfl
            simp only [Act.put, List.getElem_toArray, List.getElem_cons_succ, List.getElem_cons_zero, List.setIfInBounds_toArray, List.set_cons_zero, List.set_cons_succ]
            refine wpDet_take (v := ?_) rfl (by kernel_rfl) (fun w0 hSw => ?_) ?_
            rotate_left 1
            · have y0 := (hSw.cell (p := ⟨G, 0, none⟩) hG).trans g0; have y1 := (hSw.cell (p := ⟨G, 1, none⟩) hG).trans g1; have y2 := (hSw.cell (p := ⟨b, off + k' * 2 + 1, none⟩) hbw).trans p1
              go_simp
              with_reducible rfl
            simp only [Act.put, List.getElem_toArray, List.getElem_cons_succ, List.getElem_cons_zero, List.setIfInBounds_toArray, List.set_cons_zero, List.set_cons_succ]
            refine wpDet_take (v := ?_) rfl (by kernel_rfl) (fun w0 hSw => ?_) ?_
            rotate_left 1
            · have y0 := (hSw.cell (p := ⟨G, 0, none⟩) hG).trans g0; have y1 := (hSw.cell (p := ⟨G, 1, none⟩) hG).trans g1; have y2 := (hSw.cell (p := ⟨b, off + k' * 2 + 1, none⟩) hbw).trans p1
              go_simp
              with_reducible rfl
            simp only [Act.put, List.getElem_toArray, List.getElem_cons_succ, List.getElem_cons_zero, List.setIfInBounds_toArray, List.set_cons_zero, List.set_cons_succ]
            refine wpDet_take (v := ?_) rfl (by kernel_rfl) (fun w0 hSw => ?_) ?_
            rotate_left 1
            · have y0 := (hSw.cell (p := ⟨G, 0, none⟩) hG).trans g0; have y1 := (hSw.cell (p := ⟨G, 1, none⟩) hG).trans g1; have y2 := (hSw.cell (p := ⟨b, off + k' * 2 + 1, none⟩) hbw).trans p1
              go_simp
              with_reducible rfl
            simp only [Act.put, List.getElem_toArray, List.getElem_cons_succ, List.getElem_cons_zero, List.setIfInBounds_toArray, List.set_cons_zero, List.set_cons_succ]
            refine wpDet_take (v := ?_) rfl (by kernel_rfl) (fun w0 hSw => ?_) ?_
            rotate_left 1
            · have y0 := (hSw.cell (p := ⟨G, 0, none⟩) hG).trans g0; have y1 := (hSw.cell (p := ⟨G, 1, none⟩) hG).trans g1; have y2 := (hSw.cell (p := ⟨b, off + k' * 2 + 1, none⟩) hbw).trans p1
              go_simp
              with_reducible rfl
            simp only [Act.put, List.getElem_toArray, List.getElem_cons_succ, List.getElem_cons_zero, List.setIfInBounds_toArray, List.set_cons_zero, List.set_cons_succ]
            refine wpDet_take (v := ?_) rfl (by kernel_rfl) (fun w0 hSw => ?_) ?_
            rotate_left 1
            · have y0 := (hSw.cell (p := ⟨G, 0, none⟩) hG).trans g0; have y1 := (hSw.cell (p := ⟨G, 1, none⟩) hG).trans g1; have y2 := (hSw.cell (p := ⟨b, off + k' * 2 + 1, none⟩) hbw).trans p1
              go_simp
              with_reducible rfl
            simp only [Act.put, List.getElem_toArray, List.getElem_cons_succ, List.getElem_cons_zero, List.setIfInBounds_toArray, List.set_cons_zero, List.set_cons_succ]
            refine wpDet_take (v := ?_) rfl (by kernel_rfl) (fun w0 hSw => ?_) ?_
            rotate_left 1
            · have y0 := (hSw.cell (p := ⟨G, 0, none⟩) hG).trans g0; have y1 := (hSw.cell (p := ⟨G, 1, none⟩) hG).trans g1; have y2 := (hSw.cell (p := ⟨b, off + k' * 2 + 1, none⟩) hbw).trans p1
              go_simp
              with_reducible rfl
            simp only [Act.put, List.getElem_toArray, List.getElem_cons_succ, List.getElem_cons_zero, List.setIfInBounds_toArray, List.set_cons_zero, List.set_cons_succ]
            refine wpDet_take (v := ?_) rfl (by kernel_rfl) (fun w0 hSw => ?_) ?_
            rotate_left 1
            · have y0 := (hSw.cell (p := ⟨G, 0, none⟩) hG).trans g0; have y1 := (hSw.cell (p := ⟨G, 1, none⟩) hG).trans g1; have y2 := (hSw.cell (p := ⟨b, off + k' * 2 + 1, none⟩) hbw).trans p1
              go_simp
              with_reducible rfl
            simp only [Act.put, List.getElem_toArray, List.getElem_cons_succ, List.getElem_cons_zero, List.setIfInBounds_toArray, List.set_cons_zero, List.set_cons_succ]
            refine wpDet_take (v := ?_) rfl (by kernel_rfl) (fun w0 hSw => ?_) ?_
            rotate_left 1
            · have y0 := (hSw.cell (p := ⟨G, 0, none⟩) hG).trans g0; have y1 := (hSw.cell (p := ⟨G, 1, none⟩) hG).trans g1; have y2 := (hSw.cell (p := ⟨b, off + k' * 2 + 1, none⟩) hbw).trans p1
              go_simp
              with_reducible rfl
            simp only [Act.put, List.getElem_toArray, List.getElem_cons_succ, List.getElem_cons_zero, List.setIfInBounds_toArray, List.set_cons_zero, List.set_cons_succ]
            refine wpDet_take (v := ?_) rfl (by kernel_rfl) (fun w0 hSw => ?_) ?_
            rotate_left 1
            · have y0 := (hSw.cell (p := ⟨G, 0, none⟩) hG).trans g0; have y1 := (hSw.cell (p := ⟨G, 1, none⟩) hG).trans g1; have y2 := (hSw.cell (p := ⟨b, off + k' * 2 + 1, none⟩) hbw).trans p1
              go_simp
              with_reducible rfl
            simp only [Act.put, List.getElem_toArray, List.getElem_cons_succ, List.getElem_cons_zero, List.setIfInBounds_toArray, List.set_cons_zero, List.set_cons_succ]
            refine wpDet_take (v := ?_) rfl (by kernel_rfl) (fun w0 hSw => ?_) ?_
            rotate_left 1
            · have y0 := (hSw.cell (p := ⟨G, 0, none⟩) hG).trans g0; have y1 := (hSw.cell (p := ⟨G, 1, none⟩) hG).trans g1; have y2 := (hSw.cell (p := ⟨b, off + k' * 2 + 1, none⟩) hbw).trans p1
              go_simp
              with_reducible rfl
            simp only [Act.put, List.getElem_toArray, List.getElem_cons_succ, List.getElem_cons_zero, List.setIfInBounds_toArray, List.set_cons_zero, List.set_cons_succ]
            refine wpDet_take (v := ?_) rfl (by kernel_rfl) (fun w0 hSw => ?_) ?_
            rotate_left 1
            · have y0 := (hSw.cell (p := ⟨G, 0, none⟩) hG).trans g0; have y1 := (hSw.cell (p := ⟨G, 1, none⟩) hG).trans g1; have y2 := (hSw.cell (p := ⟨b, off + k' * 2 + 1, none⟩) hbw).trans p1
              go_simp
              with_reducible rfl
            simp only [Act.put, List.getElem_toArray, List.getElem_cons_succ, List.getElem_cons_zero, List.setIfInBounds_toArray, List.set_cons_zero, List.set_cons_succ]
            refine wpDet_take (v := ?_) rfl (by kernel_rfl) (fun w0 hSw => ?_) ?_
            rotate_left 1
            · have y0 := (hSw.cell (p := ⟨G, 0, none⟩) hG).trans g0; have y1 := (hSw.cell (p := ⟨G, 1, none⟩) hG).trans g1; have y2 := (hSw.cell (p := ⟨b, off + k' * 2 + 1, none⟩) hbw).trans p1
              go_simp
              with_reducible rfl
            simp only [Act.put, List.getElem_toArray, List.getElem_cons_succ, List.getElem_cons_zero, List.setIfInBounds_toArray, List.set_cons_zero, List.set_cons_succ]
            refine wpDet_take (v := ?_) rfl (by kernel_rfl) (fun w0 hSw => ?_) ?_
            rotate_left 1
            · have y0 := (hSw.cell (p := ⟨G, 0, none⟩) hG).trans g0; have y1 := (hSw.cell (p := ⟨G, 1, none⟩) hG).trans g1; have y2 := (hSw.cell (p := ⟨b, off + k' * 2 + 1, none⟩) hbw).trans p1
              go_simp
              with_reducible rfl
            simp only [Act.put, List.getElem_toArray, List.getElem_cons_succ, List.getElem_cons_zero, List.setIfInBounds_toArray, List.set_cons_zero, List.set_cons_succ]
            refine wpDet_take (v := ?_) rfl (by kernel_rfl) (fun w0 hSw => ?_) ?_
            rotate_left 1
            · have y0 := (hSw.cell (p := ⟨G, 0, none⟩) hG).trans g0; have y1 := (hSw.cell (p := ⟨G, 1, none⟩) hG).trans g1; have y2 := (hSw.cell (p := ⟨b, off + k' * 2 + 1, none⟩) hbw).trans p1
              go_simp
              with_reducible rfl
            simp only [Act.put, List.getElem_toArray, List.getElem_cons_succ, List.getElem_cons_zero, List.setIfInBounds_toArray, List.set_cons_zero, List.set_cons_succ]
            refine wpDet_take (v := ?_) rfl (by kernel_rfl) (fun w0 hSw => ?_) ?_
            rotate_left 1
            · have y0 := (hSw.cell (p := ⟨G, 0, none⟩) hG).trans g0; have y1 := (hSw.cell (p := ⟨G, 1, none⟩) hG).trans g1; have y2 := (hSw.cell (p := ⟨b, off + k' * 2 + 1, none⟩) hbw).trans p1
              go_simp
              with_reducible rfl
            simp only [Act.put, List.getElem_toArray, List.getElem_cons_succ, List.getElem_cons_zero, List.setIfInBounds_toArray, List.set_cons_zero, List.set_cons_succ]
            refine wpDet_take (v := ?_) rfl (by kernel_rfl) (fun w0 hSw => ?_) ?_
            rotate_left 1
            · have y0 := (hSw.cell (p := ⟨G, 0, none⟩) hG).trans g0; have y1 := (hSw.cell (p := ⟨G, 1, none⟩) hG).trans g1; have y2 := (hSw.cell (p := ⟨b, off + k' * 2 + 1, none⟩) hbw).trans p1
              go_simp
              with_reducible rfl
            simp only [Act.put, List.getElem_toArray, List.getElem_cons_succ, List.getElem_cons_zero, List.setIfInBounds_toArray, List.set_cons_zero, List.set_cons_succ]
            refine wpDet_take (v := ?_) rfl (by kernel_rfl) (fun w0 hSw => ?_) ?_
            rotate_left 1
            · have y0 := (hSw.cell (p := ⟨G, 0, none⟩) hG).trans g0; have y1 := (hSw.cell (p := ⟨G, 1, none⟩) hG).trans g1; have y2 := (hSw.cell (p := ⟨b, off + k' * 2 + 1, none⟩) hbw).trans p1
              go_simp
              with_reducible rfl
            simp only [Act.put, List.getElem_toArray, List.getElem_cons_succ, List.getElem_cons_zero, List.setIfInBounds_toArray, List.set_cons_zero, List.set_cons_succ]
            refine wpDet_take (v := .int .i64 (k' : Int)) rfl (by kernel_rfl) (fun w0 hSw => ?_) ?_
            · have y0 := (hSw.cell (p := ⟨G, 0, none⟩) hG).trans g0; have y1 := (hSw.cell (p := ⟨G, 1, none⟩) hG).trans g1; have y2 := (hSw.cell (p := ⟨b, off + k' * 2 + 1, none⟩) hbw).trans p1
              go_simp
            simp only [Act.put, List.getElem_toArray, List.getElem_cons_succ, List.getElem_cons_zero, List.setIfInBounds_toArray, List.set_cons_zero, List.set_cons_succ]
            refine wpDet_take (v := .pointer (some ⟨b, off + k' * 2, none⟩)) rfl (by kernel_rfl) (fun w0 hSw => ?_) ?_
            · have y0 := (hSw.cell (p := ⟨G, 0, none⟩) hG).trans g0; have y1 := (hSw.cell (p := ⟨G, 1, none⟩) hG).trans g1; have y2 := (hSw.cell (p := ⟨b, off + k' * 2 + 1, none⟩) hbw).trans p1
              go_simp
            simp only [Act.put, List.getElem_toArray, List.getElem_cons_succ, List.getElem_cons_zero, List.setIfInBounds_toArray, List.set_cons_zero, List.set_cons_succ]
            refine wpDet_take (v := ?_) rfl (by kernel_rfl) (fun w0 hSw => ?_) ?_
            rotate_left 1
            · have y0 := (hSw.cell (p := ⟨G, 0, none⟩) hG).trans g0; have y1 := (hSw.cell (p := ⟨G, 1, none⟩) hG).trans g1; have y2 := (hSw.cell (p := ⟨b, off + k' * 2 + 1, none⟩) hbw).trans p1
              go_simp
              with_reducible rfl
            simp only [Act.put, List.getElem_toArray, List.getElem_cons_succ, List.getElem_cons_zero, List.setIfInBounds_toArray, List.set_cons_zero, List.set_cons_succ]
            refine wpDet_take (v := ?_) rfl (by kernel_rfl) (fun w0 hSw => ?_) ?_
            rotate_left 1
            · have y0 := (hSw.cell (p := ⟨G, 0, none⟩) hG).trans g0; have y1 := (hSw.cell (p := ⟨G, 1, none⟩) hG).trans g1; have y2 := (hSw.cell (p := ⟨b, off + k' * 2 + 1, none⟩) hbw).trans p1
              go_simp
              with_reducible rfl
            simp only [Act.put, List.getElem_toArray, List.getElem_cons_succ, List.getElem_cons_zero, List.setIfInBounds_toArray, List.set_cons_zero, List.set_cons_succ]
            refine wpDet_take (v := ?_) rfl (by kernel_rfl) (fun w0 hSw => ?_) ?_
            rotate_left 1
            · have y0 := (hSw.cell (p := ⟨G, 0, none⟩) hG).trans g0; have y1 := (hSw.cell (p := ⟨G, 1, none⟩) hG).trans g1; have y2 := (hSw.cell (p := ⟨b, off + k' * 2 + 1, none⟩) hbw).trans p1
              go_simp
              with_reducible rfl
            simp only [Act.put, List.getElem_toArray, List.getElem_cons_succ, List.getElem_cons_zero, List.setIfInBounds_toArray, List.set_cons_zero, List.set_cons_succ]
            refine wpDet_take (v := ?_) rfl (by kernel_rfl) (fun w0 hSw => ?_) ?_
            rotate_left 1
            · have y0 := (hSw.cell (p := ⟨G, 0, none⟩) hG).trans g0; have y1 := (hSw.cell (p := ⟨G, 1, none⟩) hG).trans g1; have y2 := (hSw.cell (p := ⟨b, off + k' * 2 + 1, none⟩) hbw).trans p1
              go_simp
              with_reducible rfl
            simp only [Act.put, List.getElem_toArray, List.getElem_cons_succ, List.getElem_cons_zero, List.setIfInBounds_toArray, List.set_cons_zero, List.set_cons_succ]
            refine wpDet_done (fun V hV => ?_)
            have hBV := hBa.trans (hV.mono hBa.size)
            go_wp2
            go_ret
            exact ⟨by rw [calQ_no2 HN.out]; rfl, hBV⟩
          · have z5 : decide (x.f ≤ bb) = false := decide_eq_false q5
            have hyy : gapB g (k' + 1) = true := by rw [HGB.out, decide_eq_true (show bb < x.f by omega), decide_eq_true (show x.f < x.u by omega), decide_eq_true (show x.u ≤ 2097152 by omega)]; rfl
            have HYY := Lib.hid hyy
            clear hyy q1 q2 q3 q5
            refine wp_region_det 29 (fun w0 => Below W.heap.size W w0) (by kernel_rfl) (by kernel_rfl) (Below.refl _ _).drew ?_
            refine wpDet_take (v := ?_) rfl (by kernel_rfl) (fun w0 hSw => ?_) ?_
            rotate_left 1
            · have y0 := (hSw.cell (p := ⟨G, 0, none⟩) hG).trans g0; have y1 := (hSw.cell (p := ⟨G, 1, none⟩) hG).trans g1; have y2 := (hSw.cell (p := ⟨b, off + k' * 2 + 1, none⟩) hbw).trans p1
              go_simp
              with_reducible rfl
            simp only [Act.put, List.getElem_toArray, List.getElem_cons_succ, List.getElem_cons_zero, List.setIfInBounds_toArray, List.set_cons_zero, List.set_cons_succ]
            refine wpDet_take (v := ?_) rfl (by kernel_rfl) (fun w0 hSw => ?_) ?_
            rotate_left 1
            · have y0 := (hSw.cell (p := ⟨G, 0, none⟩) hG).trans g0; have y1 := (hSw.cell (p := ⟨G, 1, none⟩) hG).trans g1; have y2 := (hSw.cell (p := ⟨b, off + k' * 2 + 1, none⟩) hbw).trans p1
              go_simp
              with_reducible rfl
            simp only [Act.put, List.getElem_toArray, List.getElem_cons_succ, List.getElem_cons_zero, List.setIfInBounds_toArray, List.set_cons_zero, List.set_cons_succ]
            refine wpDet_take (v := ?_) rfl (by kernel_rfl) (fun w0 hSw => ?_) ?_
            rotate_left 1
            · have y0 := (hSw.cell (p := ⟨G, 0, none⟩) hG).trans g0; have y1 := (hSw.cell (p := ⟨G, 1, none⟩) hG).trans g1; have y2 := (hSw.cell (p := ⟨b, off + k' * 2 + 1, none⟩) hbw).trans p1
              go_simp
              with_reducible rfl
            simp only [Act.put, List.getElem_toArray, List.getElem_cons_succ, List.getElem_cons_zero, List.setIfInBounds_toArray, List.set_cons_zero, List.set_cons_succ]
            refine wpDet_take (v := ?_) rfl (by kernel_rfl) (fun w0 hSw => ?_) ?_
            rotate_left 1
            · have y0 := (hSw.cell (p := ⟨G, 0, none⟩) hG).trans g0; have y1 := (hSw.cell (p := ⟨G, 1, none⟩) hG).trans g1; have y2 := (hSw.cell (p := ⟨b, off + k' * 2 + 1, none⟩) hbw).trans p1
              go_simp
              with_reducible rfl
            simp only [Act.put, List.getElem_toArray, List.getElem_cons_succ, List.getElem_cons_zero, List.setIfInBounds_toArray, List.set_cons_zero, List.set_cons_succ]
            refine wpDet_take (v := ?_) rfl (by kernel_rfl) (fun w0 hSw => ?_) ?_
            rotate_left 1
            · have y0 := (hSw.cell (p := ⟨G, 0, none⟩) hG).trans g0; have y1 := (hSw.cell (p := ⟨G, 1, none⟩) hG).trans g1; have y2 := (hSw.cell (p := ⟨b, off + k' * 2 + 1, none⟩) hbw).trans p1
              go_simp
              with_reducible rfl
            simp only [Act.put, List.getElem_toArray, List.getElem_cons_succ, List.getElem_cons_zero, List.setIfInBounds_toArray, List.set_cons_zero, List.set_cons_succ]
            refine wpDet_take (v := ?_) rfl (by kernel_rfl) (fun w0 hSw => ?_) ?_
            rotate_left 1
            · have y0 := (hSw.cell (p := ⟨G, 0, none⟩) hG).trans g0; have y1 := (hSw.cell (p := ⟨G, 1, none⟩) hG).trans g1; have y2 := (hSw.cell (p := ⟨b, off + k' * 2 + 1, none⟩) hbw).trans p1
              go_simp
              with_reducible rfl
            simp only [Act.put, List.getElem_toArray, List.getElem_cons_succ, List.getElem_cons_zero, List.setIfInBounds_toArray, List.set_cons_zero, List.set_cons_succ]
            refine wpDet_take (v := ?_) rfl (by kernel_rfl) (fun w0 hSw => ?_) ?_
            rotate_left 1
            · have y0 := (hSw.cell (p := ⟨G, 0, none⟩) hG).trans g0; have y1 := (hSw.cell (p := ⟨G, 1, none⟩) hG).trans g1; have y2 := (hSw.cell (p := ⟨b, off + k' * 2 + 1, none⟩) hbw).trans p1
              go_simp
              with_reducible rfl
            simp only [Act.put, List.getElem_toArray, List.getElem_cons_succ, List.getElem_cons_zero, List.setIfInBounds_toArray, List.set_cons_zero, List.set_cons_succ]
            refine wpDet_take (v := ?_) rfl (by kernel_rfl) (fun w0 hSw => ?_) ?_
            rotate_left 1
            · have y0 := (hSw.cell (p := ⟨G, 0, none⟩) hG).trans g0; have y1 := (hSw.cell (p := ⟨G, 1, none⟩) hG).trans g1; have y2 := (hSw.cell (p := ⟨b, off + k' * 2 + 1, none⟩) hbw).trans p1
              go_simp
              with_reducible rfl
            simp only [Act.put, List.getElem_toArray, List.getElem_cons_succ, List.getElem_cons_zero, List.setIfInBounds_toArray, List.set_cons_zero, List.set_cons_succ]
            refine wpDet_take (v := ?_) rfl (by kernel_rfl) (fun w0 hSw => ?_) ?_
            rotate_left 1
            · have y0 := (hSw.cell (p := ⟨G, 0, none⟩) hG).trans g0; have y1 := (hSw.cell (p := ⟨G, 1, none⟩) hG).trans g1; have y2 := (hSw.cell (p := ⟨b, off + k' * 2 + 1, none⟩) hbw).trans p1
              go_simp
              with_reducible rfl
            simp only [Act.put, List.getElem_toArray, List.getElem_cons_succ, List.getElem_cons_zero, List.setIfInBounds_toArray, List.set_cons_zero, List.set_cons_succ]
            refine wpDet_take (v := ?_) rfl (by kernel_rfl) (fun w0 hSw => ?_) ?_
            rotate_left 1
            · have y0 := (hSw.cell (p := ⟨G, 0, none⟩) hG).trans g0; have y1 := (hSw.cell (p := ⟨G, 1, none⟩) hG).trans g1; have y2 := (hSw.cell (p := ⟨b, off + k' * 2 + 1, none⟩) hbw).trans p1
              go_simp
              with_reducible rfl
            simp only [Act.put, List.getElem_toArray, List.getElem_cons_succ, List.getElem_cons_zero, List.setIfInBounds_toArray, List.set_cons_zero, List.set_cons_succ]
            refine wpDet_take (v := ?_) rfl (by kernel_rfl) (fun w0 hSw => ?_) ?_
            rotate_left 1
            · have y0 := (hSw.cell (p := ⟨G, 0, none⟩) hG).trans g0; have y1 := (hSw.cell (p := ⟨G, 1, none⟩) hG).trans g1; have y2 := (hSw.cell (p := ⟨b, off + k' * 2 + 1, none⟩) hbw).trans p1
              go_simp
              with_reducible rfl
            simp only [Act.put, List.getElem_toArray, List.getElem_cons_succ, List.getElem_cons_zero, List.setIfInBounds_toArray, List.set_cons_zero, List.set_cons_succ]
            refine wpDet_take (v := ?_) rfl (by kernel_rfl) (fun w0 hSw => ?_) ?_
            rotate_left 1
            · have y0 := (hSw.cell (p := ⟨G, 0, none⟩) hG).trans g0; have y1 := (hSw.cell (p := ⟨G, 1, none⟩) hG).trans g1; have y2 := (hSw.cell (p := ⟨b, off + k' * 2 + 1, none⟩) hbw).trans p1
              go_simp
              with_reducible rfl
            simp only [Act.put, List.getElem_toArray, List.getElem_cons_succ, List.getElem_cons_zero, List.setIfInBounds_toArray, List.set_cons_zero, List.set_cons_succ]
            refine wpDet_take (v := ?_) rfl (by kernel_rfl) (fun w0 hSw => ?_) ?_
            rotate_left 1
            · have y0 := (hSw.cell (p := ⟨G, 0, none⟩) hG).trans g0; have y1 := (hSw.cell (p := ⟨G, 1, none⟩) hG).trans g1; have y2 := (hSw.cell (p := ⟨b, off + k' * 2 + 1, none⟩) hbw).trans p1
              go_simp
              with_reducible rfl
            simp only [Act.put, List.getElem_toArray, List.getElem_cons_succ, List.getElem_cons_zero, List.setIfInBounds_toArray, List.set_cons_zero, List.set_cons_succ]
            refine wpDet_take (v := ?_) rfl (by kernel_rfl) (fun w0 hSw => ?_) ?_
            rotate_left 1
            · have y0 := (hSw.cell (p := ⟨G, 0, none⟩) hG).trans g0; have y1 := (hSw.cell (p := ⟨G, 1, none⟩) hG).trans g1; have y2 := (hSw.cell (p := ⟨b, off + k' * 2 + 1, none⟩) hbw).trans p1
              go_simp
              with_reducible rfl
            simp only [Act.put, List.getElem_toArray, List.getElem_cons_succ, List.getElem_cons_zero, List.setIfInBounds_toArray, List.set_cons_zero, List.set_cons_succ]
            refine wpDet_take (v := ?_) rfl (by kernel_rfl) (fun w0 hSw => ?_) ?_
            rotate_left 1
            · have y0 := (hSw.cell (p := ⟨G, 0, none⟩) hG).trans g0; have y1 := (hSw.cell (p := ⟨G, 1, none⟩) hG).trans g1; have y2 := (hSw.cell (p := ⟨b, off + k' * 2 + 1, none⟩) hbw).trans p1
              go_simp
              with_reducible rfl
            simp only [Act.put, List.getElem_toArray, List.getElem_cons_succ, List.getElem_cons_zero, List.setIfInBounds_toArray, List.set_cons_zero, List.set_cons_succ]
            refine wpDet_take (v := ?_) rfl (by kernel_rfl) (fun w0 hSw => ?_) ?_
            rotate_left 1
            · have y0 := (hSw.cell (p := ⟨G, 0, none⟩) hG).trans g0; have y1 := (hSw.cell (p := ⟨G, 1, none⟩) hG).trans g1; have y2 := (hSw.cell (p := ⟨b, off + k' * 2 + 1, none⟩) hbw).trans p1
              go_simp
              with_reducible rfl
            simp only [Act.put, List.getElem_toArray, List.getElem_cons_succ, List.getElem_cons_zero, List.setIfInBounds_toArray, List.set_cons_zero, List.set_cons_succ]
            refine wpDet_take (v := ?_) rfl (by kernel_rfl) (fun w0 hSw => ?_) ?_
            rotate_left 1
            · have y0 := (hSw.cell (p := ⟨G, 0, none⟩) hG).trans g0; have y1 := (hSw.cell (p := ⟨G, 1, none⟩) hG).trans g1; have y2 := (hSw.cell (p := ⟨b, off + k' * 2 + 1, none⟩) hbw).trans p1
              go_simp
              with_reducible rfl
            simp only [Act.put, List.getElem_toArray, List.getElem_cons_succ, List.getElem_cons_zero, List.setIfInBounds_toArray, List.set_cons_zero, List.set_cons_succ]
            refine wpDet_take (v := ?_) rfl (by kernel_rfl) (fun w0 hSw => ?_) ?_
            rotate_left 1
            · have y0 := (hSw.cell (p := ⟨G, 0, none⟩) hG).trans g0; have y1 := (hSw.cell (p := ⟨G, 1, none⟩) hG).trans g1; have y2 := (hSw.cell (p := ⟨b, off + k' * 2 + 1, none⟩) hbw).trans p1
              go_simp
              with_reducible rfl
            simp only [Act.put, List.getElem_toArray, List.getElem_cons_succ, List.getElem_cons_zero, List.setIfInBounds_toArray, List.set_cons_zero, List.set_cons_succ]
            refine wpDet_take (v := ?_) rfl (by kernel_rfl) (fun w0 hSw => ?_) ?_
            rotate_left 1
            · have y0 := (hSw.cell (p := ⟨G, 0, none⟩) hG).trans g0; have y1 := (hSw.cell (p := ⟨G, 1, none⟩) hG).trans g1; have y2 := (hSw.cell (p := ⟨b, off + k' * 2 + 1, none⟩) hbw).trans p1
              go_simp
              with_reducible rfl
            simp only [Act.put, List.getElem_toArray, List.getElem_cons_succ, List.getElem_cons_zero, List.setIfInBounds_toArray, List.set_cons_zero, List.set_cons_succ]
            refine wpDet_take (v := ?_) rfl (by kernel_rfl) (fun w0 hSw => ?_) ?_
            rotate_left 1
            · have y0 := (hSw.cell (p := ⟨G, 0, none⟩) hG).trans g0; have y1 := (hSw.cell (p := ⟨G, 1, none⟩) hG).trans g1; have y2 := (hSw.cell (p := ⟨b, off + k' * 2 + 1, none⟩) hbw).trans p1
              go_simp
              with_reducible rfl
            simp only [Act.put, List.getElem_toArray, List.getElem_cons_succ, List.getElem_cons_zero, List.setIfInBounds_toArray, List.set_cons_zero, List.set_cons_succ]
            refine wpDet_take (v := ?_) rfl (by kernel_rfl) (fun w0 hSw => ?_) ?_
            rotate_left 1
            · have y0 := (hSw.cell (p := ⟨G, 0, none⟩) hG).trans g0; have y1 := (hSw.cell (p := ⟨G, 1, none⟩) hG).trans g1; have y2 := (hSw.cell (p := ⟨b, off + k' * 2 + 1, none⟩) hbw).trans p1
              go_simp
              with_reducible rfl
            simp only [Act.put, List.getElem_toArray, List.getElem_cons_succ, List.getElem_cons_zero, List.setIfInBounds_toArray, List.set_cons_zero, List.set_cons_succ]
            refine wpDet_take (v := ?_) rfl (by kernel_rfl) (fun w0 hSw => ?_) ?_
            rotate_left 1
            · have y0 := (hSw.cell (p := ⟨G, 0, none⟩) hG).trans g0; have y1 := (hSw.cell (p := ⟨G, 1, none⟩) hG).trans g1; have y2 := (hSw.cell (p := ⟨b, off + k' * 2 + 1, none⟩) hbw).trans p1
              go_simp
              with_reducible rfl
            simp only [Act.put, List.getElem_toArray, List.getElem_cons_succ, List.getElem_cons_zero, List.setIfInBounds_toArray, List.set_cons_zero, List.set_cons_succ]
            refine wpDet_take (v := ?_) rfl (by kernel_rfl) (fun w0 hSw => ?_) ?_
            rotate_left 1
            · have y0 := (hSw.cell (p := ⟨G, 0, none⟩) hG).trans g0; have y1 := (hSw.cell (p := ⟨G, 1, none⟩) hG).trans g1; have y2 := (hSw.cell (p := ⟨b, off + k' * 2 + 1, none⟩) hbw).trans p1
              go_simp
              with_reducible rfl
            simp only [Act.put, List.getElem_toArray, List.getElem_cons_succ, List.getElem_cons_zero, List.setIfInBounds_toArray, List.set_cons_zero, List.set_cons_succ]
            refine wpDet_take (v := .int .i64 (k' : Int)) rfl (by kernel_rfl) (fun w0 hSw => ?_) ?_
            · have y0 := (hSw.cell (p := ⟨G, 0, none⟩) hG).trans g0; have y1 := (hSw.cell (p := ⟨G, 1, none⟩) hG).trans g1; have y2 := (hSw.cell (p := ⟨b, off + k' * 2 + 1, none⟩) hbw).trans p1
              go_simp
            simp only [Act.put, List.getElem_toArray, List.getElem_cons_succ, List.getElem_cons_zero, List.setIfInBounds_toArray, List.set_cons_zero, List.set_cons_succ]
            refine wpDet_take (v := .pointer (some ⟨b, off + k' * 2, none⟩)) rfl (by kernel_rfl) (fun w0 hSw => ?_) ?_
            · have y0 := (hSw.cell (p := ⟨G, 0, none⟩) hG).trans g0; have y1 := (hSw.cell (p := ⟨G, 1, none⟩) hG).trans g1; have y2 := (hSw.cell (p := ⟨b, off + k' * 2 + 1, none⟩) hbw).trans p1
              go_simp
            simp only [Act.put, List.getElem_toArray, List.getElem_cons_succ, List.getElem_cons_zero, List.setIfInBounds_toArray, List.set_cons_zero, List.set_cons_succ]
            refine wpDet_take (v := ?_) rfl (by kernel_rfl) (fun w0 hSw => ?_) ?_
            rotate_left 1
            · have y0 := (hSw.cell (p := ⟨G, 0, none⟩) hG).trans g0; have y1 := (hSw.cell (p := ⟨G, 1, none⟩) hG).trans g1; have y2 := (hSw.cell (p := ⟨b, off + k' * 2 + 1, none⟩) hbw).trans p1
              go_simp
              with_reducible rfl
            simp only [Act.put, List.getElem_toArray, List.getElem_cons_succ, List.getElem_cons_zero, List.setIfInBounds_toArray, List.set_cons_zero, List.set_cons_succ]
            refine wpDet_take (v := ?_) rfl (by kernel_rfl) (fun w0 hSw => ?_) ?_
            rotate_left 1
            · have y0 := (hSw.cell (p := ⟨G, 0, none⟩) hG).trans g0; have y1 := (hSw.cell (p := ⟨G, 1, none⟩) hG).trans g1; have y2 := (hSw.cell (p := ⟨b, off + k' * 2 + 1, none⟩) hbw).trans p1
              go_simp
              with_reducible rfl
            simp only [Act.put, List.getElem_toArray, List.getElem_cons_succ, List.getElem_cons_zero, List.setIfInBounds_toArray, List.set_cons_zero, List.set_cons_succ]
            refine wpDet_take (v := ?_) rfl (by kernel_rfl) (fun w0 hSw => ?_) ?_
            rotate_left 1
            · have y0 := (hSw.cell (p := ⟨G, 0, none⟩) hG).trans g0; have y1 := (hSw.cell (p := ⟨G, 1, none⟩) hG).trans g1; have y2 := (hSw.cell (p := ⟨b, off + k' * 2 + 1, none⟩) hbw).trans p1
              go_simp
              with_reducible rfl
            simp only [Act.put, List.getElem_toArray, List.getElem_cons_succ, List.getElem_cons_zero, List.setIfInBounds_toArray, List.set_cons_zero, List.set_cons_succ]
            refine wpDet_take (v := ?_) rfl (by kernel_rfl) (fun w0 hSw => ?_) ?_
            rotate_left 1
            · have y0 := (hSw.cell (p := ⟨G, 0, none⟩) hG).trans g0; have y1 := (hSw.cell (p := ⟨G, 1, none⟩) hG).trans g1; have y2 := (hSw.cell (p := ⟨b, off + k' * 2 + 1, none⟩) hbw).trans p1
              go_simp
              with_reducible rfl
            simp only [Act.put, List.getElem_toArray, List.getElem_cons_succ, List.getElem_cons_zero, List.setIfInBounds_toArray, List.set_cons_zero, List.set_cons_succ]
            refine wpDet_done (fun V hV => ?_)
            have hBV := hBa.trans (hV.mono hBa.size)
            go_wp2
            go_roundg (gk - 1)
            case measure => omega
            case rel => exact ⟨k' + 1 + 1, by first | rfl | go_num, by omega, hBV, fun q hq => by
              by_cases hqk : q = k' + 1
              · subst hqk; exact HYY.out
              · exact HA2.out q (by omega)⟩
        · obtain rfl : k = g.length := by omega
          have hyes : gapsB g = true := allN_true HA2.out
          have HY2 := Lib.hid hyes
          clear hyes
          go_wp2
          go_ret
          exact ⟨by rw [calQ_yes HY.out HY2.out]; rfl, hBr⟩
end Go.Proofs.YthckledagggoiaaGreatDoor

set_option linter.unusedSimpArgs false
set_option linter.unusedVariables false
namespace Go.Proofs.YthckledagggoiaaGreatDoor
open Go.RowKit Go.Shelf Fk Sha
/-! frankingref19.next: a time that is not negative. -/
theorem rule_ok {r : List Rl} (h : rulesB r = true) {k : Nat} (hk : k < r.length) : 0 ≤ (r.getD k default).f ∧ (r.getD k default).f < (r.getD k default).u ∧ (r.getD k default).u ≤ 2097152 ∧ 1 ≤ (r.getD k default).ev ∧ (r.getD k default).ev ≤ 2097152 := by
  have := ruleB_yes (allN_get h hk)
  omega
theorem gap_ok {g : List Gp} (h : gapsB g = true) {k : Nat} (hk : k < g.length) : (g.getD k default).u ≤ 2097152 := by
  have := gapB_yes rfl rfl (allN_get h hk)
  omega
set_option maxRecDepth 100000 in
set_option maxHeartbeats 8000000 in
theorem rnext_any (r : List Rl) (g : List Gp) (v u : Value) (m : Int) (w : World) (hr : SlR w w.heap.size v r) (hg : SlP w w.heap.size u g) (hR : rulesB r = true) (hG : gapsB g = true) (hm : 0 ≤ m) (hm2 : m ≤ 2097152) :
    Calls Tryz.prog 132 #[v, u, .int .i64 m] w fun e w' => ∃ x : Int, e = .returned (.int .i64 x) ∧ 0 ≤ x ∧ Below w.heap.size w w' := by
  have HR := Lib.hid hr
  have HG := Lib.hid hg
  have RO := Lib.hid (fun k hk => rule_ok hR (k := k) hk)
  have GO := Lib.hid (fun k hk => gap_ok hG (k := k) hk)
  obtain ⟨_, A, c, rfl, _⟩ := hr
  obtain ⟨_, A2, c2, rfl, _⟩ := hg
  clear hR hG
  go_enter Tryz.func132, Tryz.ntmps132
  go_wp2_with fail
  go_loopg [2] (2097152 - m).toNat (fun gg mv wr => ∃ m1 : Int, mv = .int .i64 m1 ∧ 0 ≤ m1 ∧ m1 ≤ 2097152 ∧ (2097152 - m1).toNat ≤ gg ∧ Below w.heap.size w wr)
  case atStart => exact ⟨m, rfl, hm, hm2, Nat.le_refl _, Below.refl _ _⟩
  case round =>
    obtain ⟨m1, rfl, hm1, hm12, hmg, hBr⟩ := hrel
    by_cases h1 : m1 < 2097152
    · have f1 : decide (m1 < 2097152) = true := decide_eq_true h1
      have HM := Lib.hid (And.intro hm1 (And.intro h1 hmg))
      clear h1 hm1 hm12 hmg hm hm2
      obtain ⟨wo, rfl⟩ : ∃ wo : World, wo = wr := ⟨_, rfl⟩
      obtain ⟨G0, rfl⟩ : ∃ G0 : Nat, G0 = gk := ⟨_, rfl⟩
      go_wp2_with fail
      go_loopg [7, 8] r.length (fun g2 tv iv wr => ∃ (k : Nat) (t : Int), tv = .int .i64 t ∧ iv = .int .i64 k ∧ k + g2 = r.length ∧ Hid (m1 ≤ t ∧ t ≤ 2097152) ∧ Below w.heap.size w wr)
      case atStart => exact ⟨0, 2097152, rfl, rfl, by omega, Lib.hid ⟨by have := HM.out; omega, by omega⟩, hBr⟩
      case round =>
        clear hBr
        obtain ⟨k, t, rfl, rfl, hkg, ht, hBr⟩ := hrel
        by_cases hlt : k < r.length
        · obtain ⟨_, A', c', hv, hE⟩ := HR.out.below hBr
          obtain ⟨b, off, rfl, hbb, hE⟩ := hE (by omega)
          cases hv
          obtain ⟨d0, d1, d2⟩ := cellsR (B := 0) hE hlt
          obtain ⟨o1, o2, o3, o4, o5⟩ := RO.out k hlt
          obtain ⟨x, hx⟩ : ∃ x, r.getD k default = x := ⟨_, rfl⟩
          rw [hx] at d0 d1 d2 o1 o2 o3 o4 o5
          have hle := fun W => least_any x.f x.u x.ev m1 o1 o2 o3 o4 o5 HM.out.1 HM.out.2.1 W
          have HL := Lib.hid hle
          have s1 : (0 : Int) ≤ k := by omega
          have s2 : (k : Int) < r.length := by omega
          clear hE hx hle o1 o2 o3 o4 o5
          go_wp2_with (go_at_call 154; (with_reducible refine (HL.out _).mono ?_); rintro e w1 ⟨y, rfl, hy1, hy2, hb⟩; have HY := Lib.hid (And.intro hy1 hy2); clear hy1 hy2)
          go_roundg (gk - 1)
          case measure => omega
          case rel =>
            have e1 := ht.out
            have e2 := HY.out
            exact ⟨k + 1, min t y, rfl, by first | rfl | go_num, by omega, Lib.hid ⟨by omega, by omega⟩, hBr.trans (hb.mono hBr.size)⟩
        · obtain rfl : k = r.length := by omega
          obtain ⟨wi, rfl⟩ : ∃ wi : World, wi = wr := ⟨_, rfl⟩
          obtain ⟨G1, rfl⟩ : ∃ G1 : Nat, G1 = gk := ⟨_, rfl⟩
          go_wp2_with fail
          go_loopg [2, 9] g.length (fun g3 mv iv wr => ∃ (k : Nat) (m2 : Int), mv = .int .i64 m2 ∧ iv = .int .i64 k ∧ k + g3 = g.length ∧ Hid (m2 = t ∨ (t < m2 ∧ m2 ≤ 2097152)) ∧ Below w.heap.size w wr)
          case atStart => exact ⟨0, t, rfl, rfl, by omega, Lib.hid (.inl rfl), hBr⟩
          case round =>
            clear hBr
            obtain ⟨k, m2, rfl, rfl, hkg3, hm2, hBr⟩ := hrel
            by_cases hlt3 : k < g.length
            · obtain ⟨_, A', c', hv, hE⟩ := HG.out.below hBr
              obtain ⟨b, off, rfl, hbb, hE⟩ := hE (by omega)
              cases hv
              obtain ⟨d0, d1⟩ := cellsP (B := 0) hE hlt3
              have o1 := GO.out k hlt3
              obtain ⟨x, hx⟩ : ∃ x, g.getD k default = x := ⟨_, rfl⟩
              rw [hx] at d0 d1 o1
              have s1 : (0 : Int) ≤ k := by omega
              have s2 : (k : Int) < g.length := by omega
              have HO := Lib.hid o1
              clear hE hx o1
              by_cases q1 : x.f ≤ t
              · have z1 := decide_eq_true q1
                by_cases q2 : t < x.u
                · have z2 := decide_eq_true q2
                  have HQ := Lib.hid q2
                  clear q1 q2
                  go_wp2
                  go_roundg (gk - 1)
                  case measure => omega
                  case rel => exact ⟨k + 1, x.u, rfl, by first | rfl | go_num, by omega, Lib.hid (.inr ⟨HQ.out, HO.out⟩), hBr⟩
                · have z2 := decide_eq_false q2
                  clear q1 q2
                  go_wp2
                  go_roundg (gk - 1)
                  case measure => omega
                  case rel => exact ⟨k + 1, m2, rfl, by first | rfl | go_num, by omega, hm2, hBr⟩
              · have z1 := decide_eq_false q1
                clear q1
                go_wp2
                go_roundg (gk - 1)
                case measure => omega
                case rel => exact ⟨k + 1, m2, rfl, by first | rfl | go_num, by omega, hm2, hBr⟩
            · obtain rfl : k = g.length := by omega
              by_cases q1 : m2 = t
              · have z1 : (m2 == t) = true := by rw [q1]; exact beq_self_eq_true t
                clear q1
                go_wp2
                go_ret
                exact ⟨t, rfl, by have := HM.out.1; have := ht.out.1; omega, hBr⟩
              · have z1 : (m2 == t) = false := beq_eq_false_iff_ne.2 q1
                have HQ := Lib.hid q1
                clear q1
                go_wp2
                go_roundg (G0 - 1)
                case measure => have := HM.out; omega
                case rel =>
                  have e1 := HM.out
                  have e2 := ht.out
                  have e3 := HQ.out
                  have e4 := hm2.out
                  exact ⟨m2, rfl, by omega, by omega, by omega, hBr⟩
    · have f1 : decide (m1 < 2097152) = false := decide_eq_false h1
      clear h1
      go_wp2
      go_ret
      exact ⟨2097152, rfl, by omega, hBr⟩
end Go.Proofs.YthckledagggoiaaGreatDoor
