import Derived.Test.YthckledagggoiaaGreatDoorZMr
import Derived.Test.YthckledagggoiaaGreatDoorZFtA
set_option linter.unusedSimpArgs false
set_option linter.unusedVariables false
namespace Go.Proofs.YthckledagggoiaaGreatDoor
open Go.RowKit Go.Shelf Fk Sha
/-! frankingref19.Check, Moments; frankingref20.Index, right. -/
set_option maxRecDepth 100000 in
set_option maxHeartbeats 4000000 in
theorem rcal_many (r : List Rl) (g : List Gp) (v u : Value) (w : World) (hr : SlR w w.heap.size v r) (hg : SlP w w.heap.size u g) (h : manyB r g = true) :
    Calls Tryz.prog 56 #[v, u] w fun e w' => e = .returned (.int .i64 2) ∧ Below w.heap.size w w' := by
  obtain ⟨_, A, c, rfl, _⟩ := hr
  obtain ⟨_, A2, c2, rfl, _⟩ := hg
  unfold manyB at h
  simp only [Bool.or_eq_true, decide_eq_true_eq] at h
  by_cases h1 : 16 < r.length
  · have f1 : decide (16 < (r.length : Int)) = true := decide_eq_true (by omega)
    clear h
    go_enter Tryz.func56, Tryz.ntmps56
    go_wp2
    go_ret
    exact ⟨rfl, Below.refl _ _⟩
  · have f1 : decide (16 < (r.length : Int)) = false := decide_eq_false (by omega)
    have f2 : decide (64 < (g.length : Int)) = true := decide_eq_true (by omega)
    clear h
    go_enter Tryz.func56, Tryz.ntmps56
    go_wp2
    go_ret
    exact ⟨rfl, Below.refl _ _⟩
theorem rcal_any (r : List Rl) (g : List Gp) (v u : Value) (w : World) (hr : SlR w w.heap.size v r) (hg : SlP w w.heap.size u g) :
    Calls Tryz.prog 56 #[v, u] w fun e w' => e = .returned (.int .i64 (calP r g)) ∧ Below w.heap.size w w' := by
  unfold calP
  cases h : manyB r g with
  | true => rw [if_pos rfl]; exact rcal_many r g v u w hr hg h
  | false =>
    rw [if_neg (by simp)]
    unfold manyB at h
    simp only [Bool.or_eq_false_iff, decide_eq_false_iff_not] at h
    exact rcal_few r g v u w hr hg (by omega) (by omega)
theorem calP_0 {r : List Rl} {g : List Gp} (h : calP r g = 0) : rulesB r = true ∧ gapsB g = true := by
  unfold calP at h
  cases hm : manyB r g with
  | true => rw [hm] at h; simp at h
  | false =>
    rw [hm, if_neg (by simp)] at h
    unfold calQ at h
    cases h1 : rulesB r with
    | false => rw [h1] at h; simp at h
    | true =>
      cases h2 : gapsB g with
      | false => rw [h1, h2] at h; simp at h
      | true => exact ⟨rfl, rfl⟩
set_option maxRecDepth 100000 in
set_option maxHeartbeats 4000000 in
theorem rmoments0_any (r : List Rl) (g : List Gp) (v u : Value) (w : World) (hr : SlR w w.heap.size v r) (hg : SlP w w.heap.size u g) (h : calP r g = 0) :
    Calls Tryz.prog 83 #[v, u, .int .i64 0, .int .i64 0] w fun e w' => e = .returned (.tuple #[.slice none 0 0, .int .i64 0]) ∧ Below w.heap.size w w' := by
  obtain ⟨h1, h2⟩ := calP_0 h
  have hc := rcal_any r g v u w hr hg
  rw [h] at hc
  have hn := fun (W : World) (hb : Below w.heap.size w W) => rnext_any r g v u 0 W ((hr.below hb).mono hb.size) ((hg.below hb).mono hb.size) h1 h2 (by omega) (by omega)
  obtain ⟨_, A, c, rfl, _⟩ := hr
  obtain ⟨_, A2, c2, rfl, _⟩ := hg
  have HC := Lib.hid hc
  have HN := Lib.hid hn
  clear hc hn h h1 h2
  go_enter Tryz.func83, Tryz.ntmps83
  go_wp2_with (first
    | (go_at_call 56; (with_reducible refine HC.out.mono ?_); rintro e w1 ⟨rfl, hb1⟩)
    | (go_at_call 132; (with_reducible refine (HN.out _ hb1).mono ?_); rintro e w2 ⟨x, rfl, hx, hb⟩; have hB := hb1.trans (hb.mono hb1.size); clear hb hb1))
  go_loopg [11, 12] 1 (fun gg lv iv wr => lv = .slice none 0 0 ∧ iv = .int .i64 x ∧ Below w.heap.size w wr)
  case atStart => exact ⟨rfl, rfl, hB⟩
  case round =>
    obtain ⟨rfl, rfl, hBr⟩ := hrel
    have f1 : decide (x < 0) = false := decide_eq_false (by omega)
    clear hx
    go_wp2
    go_ret2
    exact ⟨rfl, hBr⟩
set_option maxRecDepth 100000 in
set_option maxHeartbeats 4000000 in
theorem index20_any (l : List Int) (v : Value) (n : Int) (w : World) (h : SlI w w.heap.size v l) :
    Calls Tryz.prog 112 #[v, .int .i64 n] w fun e w' => e = .returned (.int .i64 (optI (findK l.length fun q => decide (l.getD q default = n)))) ∧ w' = w := by
  have HS := Lib.hid h
  obtain ⟨_, A, c, rfl, _⟩ := h
  go_enter Tryz.func112, Tryz.ntmps112
  go_wp2_with fail
  go_loopg [5] l.length (fun gg iv wr => ∃ k : Nat, iv = .int .i64 k ∧ k + gg = l.length ∧ wr = w ∧ Hid (∀ q, q < k → l.getD q default ≠ n))
  case atStart => exact ⟨0, rfl, by omega, rfl, fun q hq => by omega⟩
  case round =>
    obtain ⟨k, rfl, hkg, rfl, HA⟩ := hrel
    by_cases hlt : k < l.length
    · obtain ⟨_, A', c', hv, hE⟩ := HS.out
      obtain ⟨b, off, rfl, hbb, hE⟩ := hE (by omega)
      cases hv
      have d0 := hE.int hlt
      have hfi := fun (h : l.getD k default = n) => findK_some (f := fun q => decide (l.getD q default = n)) hlt (decide_eq_true h) (fun q hq => decide_eq_false (HA.out q hq))
      obtain ⟨x, hx⟩ : ∃ x, l.getD k default = x := ⟨_, rfl⟩
      rw [hx] at d0 hfi
      have HX := Lib.hid hx
      have s1 : (0 : Int) ≤ k := by omega
      have s2 : (k : Int) < l.length := by omega
      clear hE hx
      by_cases hxn : x = n
      · have hf := hfi hxn
        have HF := Lib.hid hf
        have z1 : (x == n) = true := by rw [hxn]; exact beq_self_eq_true n
        clear hf hfi hxn
        go_wp2
        go_ret
        exact ⟨by rw [HF.out]; rfl, rfl⟩
      · have z1 : (x == n) = false := beq_eq_false_iff_ne.2 hxn
        have HN := Lib.hid hxn
        clear hfi hxn
        go_wp2
        go_roundg (gk - 1)
        case measure => omega
        case rel => exact ⟨k + 1, by first | rfl | go_num, by omega, rfl, fun q hq => by
          by_cases hqk : q = k
          · subst hqk; rw [HX.out]; exact HN.out
          · exact HA.out q (by omega)⟩
    · obtain rfl : k = l.length := by omega
      have hf : findK l.length (fun q => decide (l.getD q default = n)) = none := findK_none (fun q hq => decide_eq_false (HA.out q hq))
      have HF := Lib.hid hf
      clear hf
      go_wp2
      go_ret
      exact ⟨by rw [HF.out]; rfl, rfl⟩
theorem index20_mem {l : List Int} {n : Int} : n ∈ l ↔ 0 ≤ optI (findK l.length fun q => decide (l.getD q default = n)) := by
  constructor
  · intro h
    obtain ⟨i, hi, rfl⟩ := List.getElem_of_mem h
    cases hf : findK l.length (fun q => decide (l.getD q default = l[i])) with
    | some k => exact Int.natCast_nonneg k
    | none =>
      unfold findK at hf
      rw [List.find?_range_eq_none] at hf
      have := hf i hi
      have h0 : decide (l.getD i default = l[i]) = true := decide_eq_true (getD_at hi)
      rw [h0] at this
      exact absurd this (by decide)
  · intro h
    cases hf : findK l.length (fun q => decide (l.getD q default = n)) with
    | none => rw [hf] at h; exact absurd h (by decide)
    | some k =>
      obtain ⟨h1, h2, _⟩ := findK_is hf
      have := of_decide_eq_true h2
      rw [← this, getD_at h1]
      exact List.getElem_mem h1
end Go.Proofs.YthckledagggoiaaGreatDoor

set_option linter.unusedSimpArgs false
set_option linter.unusedVariables false
namespace Go.Proofs.YthckledagggoiaaGreatDoor
open Go.RowKit Go.Shelf Fk Sha
/-! frankingref20.right -/
theorem head_no {no ng : Nat} {cl rm : Int} (h : ((btwB no 2 9 && decide ((ng : Int) = (no : Int) - 1)) && (btwB cl 1 255 && btwB rm 1 64)) = false) :
    (no : Int) < 2 ∨ (¬ (no : Int) < 2 ∧ 9 < (no : Int)) ∨ (¬ (no : Int) < 2 ∧ ¬ 9 < (no : Int) ∧ ¬ (ng : Int) = (no : Int) - 1) ∨ (¬ (no : Int) < 2 ∧ ¬ 9 < (no : Int) ∧ (ng : Int) = (no : Int) - 1 ∧ cl < 1) ∨
    (¬ (no : Int) < 2 ∧ ¬ 9 < (no : Int) ∧ (ng : Int) = (no : Int) - 1 ∧ ¬ cl < 1 ∧ 255 < cl) ∨ (¬ (no : Int) < 2 ∧ ¬ 9 < (no : Int) ∧ (ng : Int) = (no : Int) - 1 ∧ ¬ cl < 1 ∧ ¬ 255 < cl ∧ rm < 1) ∨
    (¬ (no : Int) < 2 ∧ ¬ 9 < (no : Int) ∧ (ng : Int) = (no : Int) - 1 ∧ ¬ cl < 1 ∧ ¬ 255 < cl ∧ ¬ rm < 1 ∧ 64 < rm) := by
  unfold btwB at h
  simp only [Bool.and_eq_false_iff, decide_eq_false_iff_not] at h
  omega
theorem head_yes {no ng : Nat} {cl rm : Int} (h : ((btwB no 2 9 && decide ((ng : Int) = (no : Int) - 1)) && (btwB cl 1 255 && btwB rm 1 64)) = true) :
    ¬ (no : Int) < 2 ∧ ¬ 9 < (no : Int) ∧ (ng : Int) = (no : Int) - 1 ∧ ¬ cl < 1 ∧ ¬ 255 < cl ∧ ¬ rm < 1 ∧ ¬ 64 < rm := by
  unfold btwB at h
  simp only [Bool.and_eq_true, decide_eq_true_eq] at h
  omega
set_option maxRecDepth 100000 in
set_option maxHeartbeats 8000000 in
theorem rright_bad (A : Option Addr) (no c1 : Nat) (A2 : Option Addr) (ng c2 : Nat) (cl rm : Int) (A3 : Option Addr) (n3 c3 : Nat) (A4 : Option Addr) (n4 c4 : Nat) (n : Int) (w : World)
    (h : ((btwB no 2 9 && decide ((ng : Int) = (no : Int) - 1)) && (btwB cl 1 255 && btwB rm 1 64)) = false) :
    Calls Tryz.prog 55 #[.agg #[.slice A no c1, .slice A2 ng c2, .int .i64 cl, .int .i64 rm, .slice A3 n3 c3, .slice A4 n4 c4], .int .i64 n] w fun e w' => e = .returned (.bool false) ∧ Below w.heap.size w w' := by
  have hB := below_alloc' w (.cells #[.slice A no c1, .slice A2 ng c2, .int .i64 cl, .int .i64 rm, .slice A3 n3 c3, .slice A4 n4 c4] 68)
  rcases head_no h with g1 | ⟨g1, g2⟩ | ⟨g1, g2, g3⟩ | ⟨g1, g2, g3, g4⟩ | ⟨g1, g2, g3, g4, g5⟩ | ⟨g1, g2, g3, g4, g5, g6⟩ | ⟨g1, g2, g3, g4, g5, g6, g7⟩
  · have g1 := decide_eq_true g1
    clear h
    go_enter Tryz.func55, Tryz.ntmps55
    go_wp2
    go_ret
    exact ⟨rfl, hB⟩
  · have g1 := decide_eq_false g1; have g2 := decide_eq_true g2
    clear h
    go_enter Tryz.func55, Tryz.ntmps55
    go_wp2
    go_ret
    exact ⟨rfl, hB⟩
  · have g1 := decide_eq_false g1; have g2 := decide_eq_false g2; have g3 : ((ng : Int) != (no : Int) - 1) = true := bne_iff_ne.2 g3
    clear h
    go_enter Tryz.func55, Tryz.ntmps55
    go_wp2
    go_ret
    exact ⟨rfl, hB⟩
  · have g1 := decide_eq_false g1; have g2 := decide_eq_false g2; have g3 : ((ng : Int) != (no : Int) - 1) = false := by rw [g3]; simp
    have g4 := decide_eq_true g4
    clear h
    go_enter Tryz.func55, Tryz.ntmps55
    go_wp2
    go_ret
    exact ⟨rfl, hB⟩
  · have g1 := decide_eq_false g1; have g2 := decide_eq_false g2; have g3 : ((ng : Int) != (no : Int) - 1) = false := by rw [g3]; simp
    have g4 := decide_eq_false g4; have g5 := decide_eq_true g5
    clear h
    go_enter Tryz.func55, Tryz.ntmps55
    go_wp2
    go_ret
    exact ⟨rfl, hB⟩
  · have g1 := decide_eq_false g1; have g2 := decide_eq_false g2; have g3 : ((ng : Int) != (no : Int) - 1) = false := by rw [g3]; simp
    have g4 := decide_eq_false g4; have g5 := decide_eq_false g5; have g6 := decide_eq_true g6
    clear h
    go_enter Tryz.func55, Tryz.ntmps55
    go_wp2
    go_ret
    exact ⟨rfl, hB⟩
  · have g1 := decide_eq_false g1; have g2 := decide_eq_false g2; have g3 : ((ng : Int) != (no : Int) - 1) = false := by rw [g3]; simp
    have g4 := decide_eq_false g4; have g5 := decide_eq_false g5; have g6 := decide_eq_false g6; have g7 := decide_eq_true g7
    clear h
    go_enter Tryz.func55, Tryz.ntmps55
    go_wp2
    go_ret
    exact ⟨rfl, hB⟩
set_option maxRecDepth 100000 in
set_option maxHeartbeats 8000000 in
theorem rright_good (A : Option Addr) (c1 : Nat) (ol : List Int) (A2 : Option Addr) (c2 : Nat) (gl : List Int) (cl rm : Int) (A3 : Option Addr) (n3 c3 : Nat) (A4 : Option Addr) (n4 c4 : Nat) (n : Int) (w : World) (hcap : ol.length ≤ c1)
    (ho : SlI w w.heap.size (.slice A ol.length c1) ol) (hg : SlI w w.heap.size (.slice A2 gl.length c2) gl)
    (h : ((btwB ol.length 2 9 && decide ((gl.length : Int) = (ol.length : Int) - 1)) && (btwB cl 1 255 && btwB rm 1 64)) = true) :
    Calls Tryz.prog 55 #[.agg #[.slice A ol.length c1, .slice A2 gl.length c2, .int .i64 cl, .int .i64 rm, .slice A3 n3 c3, .slice A4 n4 c4], .int .i64 n] w fun e w' => e = .returned (.bool (stopsB ol n && gl.all legB)) ∧ Below w.heap.size w w' := by
  have HO := Lib.hid ho
  have HG := Lib.hid hg
  obtain ⟨_, A', c', hv, hE⟩ := ho
  cases hv
  obtain ⟨g1, g2, g3, g4, g5, g6, g7⟩ := head_yes h
  have hgl : gl.length + 1 = ol.length := by omega
  obtain ⟨b, off, rfl, hbb, hE⟩ := hE (by omega)
  have hB := below_alloc' w (.cells #[.slice (some ⟨b, off, none⟩) ol.length c1, .slice A2 gl.length c2, .int .i64 cl, .int .i64 rm, .slice A3 n3 c3, .slice A4 n4 c4] 68)
  have r0 := Row.new w 68 [.slice (some ⟨b, off, none⟩) ol.length c1, .slice A2 gl.length c2, .int .i64 cl, .int .i64 rm, .slice A3 n3 c3, .slice A4 n4 c4]
  have g1 := decide_eq_false g1; have g2 := decide_eq_false g2; have g3' : ((gl.length : Int) != (ol.length : Int) - 1) = false := by rw [g3]; simp
  have g4 := decide_eq_false g4; have g5 := decide_eq_false g5; have g6 := decide_eq_false g6; have g7 := decide_eq_false g7
  have IXC := Lib.hid (fun (k : Nat) (hk : k ≤ ol.length) (o : Int) (W : World) (hb : Below w.heap.size w W) => by
    have hs : SlI W W.heap.size (.slice (some ⟨b, off, none⟩) k c1) (ol.take k) := by
      have h0 := (HO.out.below hb).mono hb.size
      obtain ⟨q1, A9, c9, hv9, hE9⟩ := h0
      cases hv9
      have hkl : (ol.take k).length = k := by rw [List.length_take]; omega
      refine ⟨by rw [hkl]; omega, _, _, by rw [hkl], fun hp => ?_⟩
      obtain ⟨b9, o9, e9, hb9, hE9⟩ := hE9 (by omega)
      refine ⟨b9, o9, e9, hb9, fun i hi j hj => ?_⟩
      rw [hkl] at hi
      have := hE9 i (by omega) j hj
      rw [this]
      congr 3
      rw [List.getD_eq_getElem?_getD, List.getD_eq_getElem?_getD, List.getElem?_take, if_pos hi]
    exact index20_any (ol.take k) _ o W hs)
  have HC := Lib.hid hcap
  have HGL := Lib.hid hgl
  clear h hE g3 hcap
  go_enter Tryz.func55, Tryz.ntmps55
  go_wp2_with fail
  clear g1 g2 g3' g4 g5 g6 g7
  go_loopg [6] ol.length (fun gg iv wr => ∃ k : Nat, iv = .int .i64 k ∧ k + gg = ol.length ∧ Below w.heap.size w wr ∧ Row wr w.heap.size 68 [.slice (some ⟨b, off, none⟩) ol.length c1, .slice A2 gl.length c2, .int .i64 cl, .int .i64 rm, .slice A3 n3 c3, .slice A4 n4 c4] ∧ Hid (∀ q, q < k → stopB ol n q = true))
  case atStart => exact ⟨0, rfl, by omega, hB, r0, fun q hq => by omega⟩
  case round =>
    clear hB r0 hgl
    obtain ⟨k, rfl, hkg, hBr, hr0, HA⟩ := hrel
    have hlo := hr0.lt
    have q0 := hr0.cell 0
    have q1 := hr0.cell 1
    by_cases hlt : k < ol.length
    · obtain ⟨_, A9, c9, hv9, hE⟩ := HO.out.below hBr
      cases hv9
      obtain ⟨b9, o9, e9, _, hE⟩ := hE (by omega)
      cases e9
      have d0 := CellsG.int hE hlt
      have hbw : b < wr.heap.size := Nat.lt_of_lt_of_le hbb hBr.size
      have hix := fun (o : Int) (W : World) (hb : Below w.heap.size w W) => IXC.out k (by omega) o W hb
      have hmem : ∀ o : Int, o ∈ ol.take k ↔ 0 ≤ optI (findK (ol.take k).length fun q => decide ((ol.take k).getD q default = o)) := fun o => index20_mem
      have hst : stopB ol n k = (btwB (ol.getD k default) 0 (n - 1) && !decide (ol.getD k default ∈ ol.take k)) := rfl
      obtain ⟨o, ho⟩ : ∃ o, ol.getD k default = o := ⟨_, rfl⟩
      rw [ho] at d0 hst
      obtain ⟨ix, hixx⟩ : ∃ ix, optI (findK (ol.take k).length fun q => decide ((ol.take k).getD q default = o)) = ix := ⟨_, rfl⟩
      have hix2 := hix o
      have hmo := hmem o
      rw [hixx] at hix2 hmo
      have IXC2 := Lib.hid hix2
      have s1 : (0 : Int) ≤ k := by omega
      have s2 : (k : Int) < ol.length := by omega
      have s3 : (k : Int) ≤ (c1 : Int) := by have := HC.out; omega
      have s4 : k ≤ c1 := by have := HC.out; omega
      have HBw := Lib.hid hBr
      clear hE ho hix hmem hix2 hixx
      unfold btwB at hst
      have HST := Lib.hid hst
      have HMO := Lib.hid hmo
      clear hst hmo
      go_upto_region 7 with fail
      by_cases p1 : o < 0
      · have hno : stopsB ol n = false := allN_false hlt (by rw [HST.out, decide_eq_false (show ¬ 0 ≤ o by omega)]; rfl)
        have HN := Lib.hid hno
        have z1 := decide_eq_true p1
        clear hno p1
        refine wp_region_det 27 (fun w0 => Below wr.heap.size wr w0) (by kernel_rfl) (by kernel_rfl) (Below.refl _ _).drew ?_
        refine wpDet_take (v := ?_) rfl (by kernel_rfl) (fun w0 hSw => ?_) ?_
        rotate_left 1
        · have y0 := (hSw.cell (p := ⟨w.heap.size, 0, none⟩) hlo).trans q0; have y1 := (hSw.cell (p := ⟨w.heap.size, 1, none⟩) hlo).trans q1; have y2 := (hSw.cell (p := ⟨b, off + k, none⟩) hbw).trans d0
          go_simp
          with_reducible rfl
        simp only [Act.put, List.getElem_toArray, List.getElem_cons_succ, List.getElem_cons_zero, List.setIfInBounds_toArray, List.set_cons_zero, List.set_cons_succ]
        refine wpDet_take (v := .slice (some ⟨b, off, none⟩) ol.length c1) rfl (by kernel_rfl) (fun w0 hSw => ?_) ?_
        · have y0 := (hSw.cell (p := ⟨w.heap.size, 0, none⟩) hlo).trans q0; have y1 := (hSw.cell (p := ⟨w.heap.size, 1, none⟩) hlo).trans q1; have y2 := (hSw.cell (p := ⟨b, off + k, none⟩) hbw).trans d0
          go_simp
        simp only [Act.put, List.getElem_toArray, List.getElem_cons_succ, List.getElem_cons_zero, List.setIfInBounds_toArray, List.set_cons_zero, List.set_cons_succ]
        refine wpDet_take (v := ?_) rfl (by kernel_rfl) (fun w0 hSw => ?_) ?_
        rotate_left 1
        · have y0 := (hSw.cell (p := ⟨w.heap.size, 0, none⟩) hlo).trans q0; have y1 := (hSw.cell (p := ⟨w.heap.size, 1, none⟩) hlo).trans q1; have y2 := (hSw.cell (p := ⟨b, off + k, none⟩) hbw).trans d0
          go_simp
          with_reducible rfl
        simp only [Act.put, List.getElem_toArray, List.getElem_cons_succ, List.getElem_cons_zero, List.setIfInBounds_toArray, List.set_cons_zero, List.set_cons_succ]
        refine wpDet_take (v := .pointer (some ⟨b, off + k, none⟩)) rfl (by kernel_rfl) (fun w0 hSw => ?_) ?_
        · have y0 := (hSw.cell (p := ⟨w.heap.size, 0, none⟩) hlo).trans q0; have y1 := (hSw.cell (p := ⟨w.heap.size, 1, none⟩) hlo).trans q1; have y2 := (hSw.cell (p := ⟨b, off + k, none⟩) hbw).trans d0
          go_simp
        simp only [Act.put, List.getElem_toArray, List.getElem_cons_succ, List.getElem_cons_zero, List.setIfInBounds_toArray, List.set_cons_zero, List.set_cons_succ]
        refine wpDet_take (v := .int .i64 o) rfl (by kernel_rfl) (fun w0 hSw => ?_) ?_
        · have y0 := (hSw.cell (p := ⟨w.heap.size, 0, none⟩) hlo).trans q0; have y1 := (hSw.cell (p := ⟨w.heap.size, 1, none⟩) hlo).trans q1; have y2 := (hSw.cell (p := ⟨b, off + k, none⟩) hbw).trans d0
          go_simp
        simp only [Act.put, List.getElem_toArray, List.getElem_cons_succ, List.getElem_cons_zero, List.setIfInBounds_toArray, List.set_cons_zero, List.set_cons_succ]
        refine wpDet_take (v := ?_) rfl (by kernel_rfl) (fun w0 hSw => ?_) ?_
        rotate_left 1
        · have y0 := (hSw.cell (p := ⟨w.heap.size, 0, none⟩) hlo).trans q0; have y1 := (hSw.cell (p := ⟨w.heap.size, 1, none⟩) hlo).trans q1; have y2 := (hSw.cell (p := ⟨b, off + k, none⟩) hbw).trans d0
          go_simp
          with_reducible rfl
        simp only [Act.put, List.getElem_toArray, List.getElem_cons_succ, List.getElem_cons_zero, List.setIfInBounds_toArray, List.set_cons_zero, List.set_cons_succ]
        refine wpDet_take (v := ?_) rfl (by kernel_rfl) (fun w0 hSw => ?_) ?_
        rotate_left 1
        · have y0 := (hSw.cell (p := ⟨w.heap.size, 0, none⟩) hlo).trans q0; have y1 := (hSw.cell (p := ⟨w.heap.size, 1, none⟩) hlo).trans q1; have y2 := (hSw.cell (p := ⟨b, off + k, none⟩) hbw).trans d0
          go_simp
          with_reducible rfl
        simp only [Act.put, List.getElem_toArray, List.getElem_cons_succ, List.getElem_cons_zero, List.setIfInBounds_toArray, List.set_cons_zero, List.set_cons_succ]
        refine wpDet_skip rfl (by kernel_rfl) ?_
        simp only [Act.put, List.getElem_toArray, List.getElem_cons_succ, List.getElem_cons_zero, List.setIfInBounds_toArray, List.set_cons_zero, List.set_cons_succ]
        refine wpDet_skip rfl (by kernel_rfl) ?_
        simp only [Act.put, List.getElem_toArray, List.getElem_cons_succ, List.getElem_cons_zero, List.setIfInBounds_toArray, List.set_cons_zero, List.set_cons_succ]
        refine wpDet_skip rfl (by kernel_rfl) ?_
        simp only [Act.put, List.getElem_toArray, List.getElem_cons_succ, List.getElem_cons_zero, List.setIfInBounds_toArray, List.set_cons_zero, List.set_cons_succ]
        refine wpDet_skip rfl (by kernel_rfl) ?_
        simp only [Act.put, List.getElem_toArray, List.getElem_cons_succ, List.getElem_cons_zero, List.setIfInBounds_toArray, List.set_cons_zero, List.set_cons_succ]
        refine wpDet_skip rfl (by kernel_rfl) ?_
        simp only [Act.put, List.getElem_toArray, List.getElem_cons_succ, List.getElem_cons_zero, List.setIfInBounds_toArray, List.set_cons_zero, List.set_cons_succ]
        refine wpDet_skip rfl (by kernel_rfl) ?_
        simp only [Act.put, List.getElem_toArray, List.getElem_cons_succ, List.getElem_cons_zero, List.setIfInBounds_toArray, List.set_cons_zero, List.set_cons_succ]
        refine wpDet_skip rfl (by kernel_rfl) ?_
        simp only [Act.put, List.getElem_toArray, List.getElem_cons_succ, List.getElem_cons_zero, List.setIfInBounds_toArray, List.set_cons_zero, List.set_cons_succ]
        refine wpDet_take (v := ?_) rfl (by kernel_rfl) (fun w0 hSw => ?_) ?_
        rotate_left 1
        · have y0 := (hSw.cell (p := ⟨w.heap.size, 0, none⟩) hlo).trans q0; have y1 := (hSw.cell (p := ⟨w.heap.size, 1, none⟩) hlo).trans q1; have y2 := (hSw.cell (p := ⟨b, off + k, none⟩) hbw).trans d0
          go_simp
          with_reducible rfl
        simp only [Act.put, List.getElem_toArray, List.getElem_cons_succ, List.getElem_cons_zero, List.setIfInBounds_toArray, List.set_cons_zero, List.set_cons_succ]
        refine wpDet_take (v := ?_) rfl (by kernel_rfl) (fun w0 hSw => ?_) ?_
        rotate_left 1
        · have y0 := (hSw.cell (p := ⟨w.heap.size, 0, none⟩) hlo).trans q0; have y1 := (hSw.cell (p := ⟨w.heap.size, 1, none⟩) hlo).trans q1; have y2 := (hSw.cell (p := ⟨b, off + k, none⟩) hbw).trans d0
          go_simp
          with_reducible rfl
        simp only [Act.put, List.getElem_toArray, List.getElem_cons_succ, List.getElem_cons_zero, List.setIfInBounds_toArray, List.set_cons_zero, List.set_cons_succ]
        refine wpDet_skip rfl (by kernel_rfl) ?_
        simp only [Act.put, List.getElem_toArray, List.getElem_cons_succ, List.getElem_cons_zero, List.setIfInBounds_toArray, List.set_cons_zero, List.set_cons_succ]
        refine wpDet_skip rfl (by kernel_rfl) ?_
        simp only [Act.put, List.getElem_toArray, List.getElem_cons_succ, List.getElem_cons_zero, List.setIfInBounds_toArray, List.set_cons_zero, List.set_cons_succ]
        refine wpDet_skip rfl (by kernel_rfl) ?_
        simp only [Act.put, List.getElem_toArray, List.getElem_cons_succ, List.getElem_cons_zero, List.setIfInBounds_toArray, List.set_cons_zero, List.set_cons_succ]
        refine wpDet_skip rfl (by kernel_rfl) ?_
        simp only [Act.put, List.getElem_toArray, List.getElem_cons_succ, List.getElem_cons_zero, List.setIfInBounds_toArray, List.set_cons_zero, List.set_cons_succ]
        refine wpDet_skip rfl (by kernel_rfl) ?_
        simp only [Act.put, List.getElem_toArray, List.getElem_cons_succ, List.getElem_cons_zero, List.setIfInBounds_toArray, List.set_cons_zero, List.set_cons_succ]
        refine wpDet_skip rfl (by kernel_rfl) ?_
        simp only [Act.put, List.getElem_toArray, List.getElem_cons_succ, List.getElem_cons_zero, List.setIfInBounds_toArray, List.set_cons_zero, List.set_cons_succ]
        refine wpDet_skip rfl (by kernel_rfl) ?_
        simp only [Act.put, List.getElem_toArray, List.getElem_cons_succ, List.getElem_cons_zero, List.setIfInBounds_toArray, List.set_cons_zero, List.set_cons_succ]
        refine wpDet_skip rfl (by kernel_rfl) ?_
        simp only [Act.put, List.getElem_toArray, List.getElem_cons_succ, List.getElem_cons_zero, List.setIfInBounds_toArray, List.set_cons_zero, List.set_cons_succ]
        refine wpDet_skip rfl (by kernel_rfl) ?_
        simp only [Act.put, List.getElem_toArray, List.getElem_cons_succ, List.getElem_cons_zero, List.setIfInBounds_toArray, List.set_cons_zero, List.set_cons_succ]
        refine wpDet_skip rfl (by kernel_rfl) ?_
        simp only [Act.put, List.getElem_toArray, List.getElem_cons_succ, List.getElem_cons_zero, List.setIfInBounds_toArray, List.set_cons_zero, List.set_cons_succ]
        refine wpDet_skip rfl (by kernel_rfl) ?_
        simp only [Act.put, List.getElem_toArray, List.getElem_cons_succ, List.getElem_cons_zero, List.setIfInBounds_toArray, List.set_cons_zero, List.set_cons_succ]
        refine wpDet_done (fun V hV => ?_)
        go_wp2
        go_ret
        exact ⟨by rw [HN.out]; rfl, HBw.out.trans (hV.mono HBw.out.size)⟩
      have z1 := decide_eq_false p1
      by_cases p2 : n ≤ o
      · have hno : stopsB ol n = false := allN_false hlt (by rw [HST.out, decide_eq_false (show ¬ o ≤ n - 1 by omega), Bool.and_false]; rfl)
        have HN := Lib.hid hno
        have z2 := decide_eq_true p2
        clear hno p1 p2
        refine wp_region_det 27 (fun w0 => Below wr.heap.size wr w0) (by kernel_rfl) (by kernel_rfl) (Below.refl _ _).drew ?_
        refine wpDet_take (v := ?_) rfl (by kernel_rfl) (fun w0 hSw => ?_) ?_
        rotate_left 1
        · have y0 := (hSw.cell (p := ⟨w.heap.size, 0, none⟩) hlo).trans q0; have y1 := (hSw.cell (p := ⟨w.heap.size, 1, none⟩) hlo).trans q1; have y2 := (hSw.cell (p := ⟨b, off + k, none⟩) hbw).trans d0
          go_simp
          with_reducible rfl
        simp only [Act.put, List.getElem_toArray, List.getElem_cons_succ, List.getElem_cons_zero, List.setIfInBounds_toArray, List.set_cons_zero, List.set_cons_succ]
        refine wpDet_take (v := .slice (some ⟨b, off, none⟩) ol.length c1) rfl (by kernel_rfl) (fun w0 hSw => ?_) ?_
        · have y0 := (hSw.cell (p := ⟨w.heap.size, 0, none⟩) hlo).trans q0; have y1 := (hSw.cell (p := ⟨w.heap.size, 1, none⟩) hlo).trans q1; have y2 := (hSw.cell (p := ⟨b, off + k, none⟩) hbw).trans d0
          go_simp
        simp only [Act.put, List.getElem_toArray, List.getElem_cons_succ, List.getElem_cons_zero, List.setIfInBounds_toArray, List.set_cons_zero, List.set_cons_succ]
        refine wpDet_take (v := ?_) rfl (by kernel_rfl) (fun w0 hSw => ?_) ?_
        rotate_left 1
        · have y0 := (hSw.cell (p := ⟨w.heap.size, 0, none⟩) hlo).trans q0; have y1 := (hSw.cell (p := ⟨w.heap.size, 1, none⟩) hlo).trans q1; have y2 := (hSw.cell (p := ⟨b, off + k, none⟩) hbw).trans d0
          go_simp
          with_reducible rfl
        simp only [Act.put, List.getElem_toArray, List.getElem_cons_succ, List.getElem_cons_zero, List.setIfInBounds_toArray, List.set_cons_zero, List.set_cons_succ]
        refine wpDet_take (v := .pointer (some ⟨b, off + k, none⟩)) rfl (by kernel_rfl) (fun w0 hSw => ?_) ?_
        · have y0 := (hSw.cell (p := ⟨w.heap.size, 0, none⟩) hlo).trans q0; have y1 := (hSw.cell (p := ⟨w.heap.size, 1, none⟩) hlo).trans q1; have y2 := (hSw.cell (p := ⟨b, off + k, none⟩) hbw).trans d0
          go_simp
        simp only [Act.put, List.getElem_toArray, List.getElem_cons_succ, List.getElem_cons_zero, List.setIfInBounds_toArray, List.set_cons_zero, List.set_cons_succ]
        refine wpDet_take (v := .int .i64 o) rfl (by kernel_rfl) (fun w0 hSw => ?_) ?_
        · have y0 := (hSw.cell (p := ⟨w.heap.size, 0, none⟩) hlo).trans q0; have y1 := (hSw.cell (p := ⟨w.heap.size, 1, none⟩) hlo).trans q1; have y2 := (hSw.cell (p := ⟨b, off + k, none⟩) hbw).trans d0
          go_simp
        simp only [Act.put, List.getElem_toArray, List.getElem_cons_succ, List.getElem_cons_zero, List.setIfInBounds_toArray, List.set_cons_zero, List.set_cons_succ]
        refine wpDet_take (v := ?_) rfl (by kernel_rfl) (fun w0 hSw => ?_) ?_
        rotate_left 1
        · have y0 := (hSw.cell (p := ⟨w.heap.size, 0, none⟩) hlo).trans q0; have y1 := (hSw.cell (p := ⟨w.heap.size, 1, none⟩) hlo).trans q1; have y2 := (hSw.cell (p := ⟨b, off + k, none⟩) hbw).trans d0
          go_simp
          with_reducible rfl
        simp only [Act.put, List.getElem_toArray, List.getElem_cons_succ, List.getElem_cons_zero, List.setIfInBounds_toArray, List.set_cons_zero, List.set_cons_succ]
        refine wpDet_take (v := ?_) rfl (by kernel_rfl) (fun w0 hSw => ?_) ?_
        rotate_left 1
        · have y0 := (hSw.cell (p := ⟨w.heap.size, 0, none⟩) hlo).trans q0; have y1 := (hSw.cell (p := ⟨w.heap.size, 1, none⟩) hlo).trans q1; have y2 := (hSw.cell (p := ⟨b, off + k, none⟩) hbw).trans d0
          go_simp
          with_reducible rfl
        simp only [Act.put, List.getElem_toArray, List.getElem_cons_succ, List.getElem_cons_zero, List.setIfInBounds_toArray, List.set_cons_zero, List.set_cons_succ]
        refine wpDet_take (v := ?_) rfl (by kernel_rfl) (fun w0 hSw => ?_) ?_
        rotate_left 1
        · have y0 := (hSw.cell (p := ⟨w.heap.size, 0, none⟩) hlo).trans q0; have y1 := (hSw.cell (p := ⟨w.heap.size, 1, none⟩) hlo).trans q1; have y2 := (hSw.cell (p := ⟨b, off + k, none⟩) hbw).trans d0
          go_simp
          with_reducible rfl
        simp only [Act.put, List.getElem_toArray, List.getElem_cons_succ, List.getElem_cons_zero, List.setIfInBounds_toArray, List.set_cons_zero, List.set_cons_succ]
        refine wpDet_take (v := .slice (some ⟨b, off, none⟩) ol.length c1) rfl (by kernel_rfl) (fun w0 hSw => ?_) ?_
        · have y0 := (hSw.cell (p := ⟨w.heap.size, 0, none⟩) hlo).trans q0; have y1 := (hSw.cell (p := ⟨w.heap.size, 1, none⟩) hlo).trans q1; have y2 := (hSw.cell (p := ⟨b, off + k, none⟩) hbw).trans d0
          go_simp
        simp only [Act.put, List.getElem_toArray, List.getElem_cons_succ, List.getElem_cons_zero, List.setIfInBounds_toArray, List.set_cons_zero, List.set_cons_succ]
        refine wpDet_take (v := ?_) rfl (by kernel_rfl) (fun w0 hSw => ?_) ?_
        rotate_left 1
        · have y0 := (hSw.cell (p := ⟨w.heap.size, 0, none⟩) hlo).trans q0; have y1 := (hSw.cell (p := ⟨w.heap.size, 1, none⟩) hlo).trans q1; have y2 := (hSw.cell (p := ⟨b, off + k, none⟩) hbw).trans d0
          go_simp
          with_reducible rfl
        simp only [Act.put, List.getElem_toArray, List.getElem_cons_succ, List.getElem_cons_zero, List.setIfInBounds_toArray, List.set_cons_zero, List.set_cons_succ]
        refine wpDet_take (v := .pointer (some ⟨b, off + k, none⟩)) rfl (by kernel_rfl) (fun w0 hSw => ?_) ?_
        · have y0 := (hSw.cell (p := ⟨w.heap.size, 0, none⟩) hlo).trans q0; have y1 := (hSw.cell (p := ⟨w.heap.size, 1, none⟩) hlo).trans q1; have y2 := (hSw.cell (p := ⟨b, off + k, none⟩) hbw).trans d0
          go_simp
        simp only [Act.put, List.getElem_toArray, List.getElem_cons_succ, List.getElem_cons_zero, List.setIfInBounds_toArray, List.set_cons_zero, List.set_cons_succ]
        refine wpDet_take (v := .int .i64 o) rfl (by kernel_rfl) (fun w0 hSw => ?_) ?_
        · have y0 := (hSw.cell (p := ⟨w.heap.size, 0, none⟩) hlo).trans q0; have y1 := (hSw.cell (p := ⟨w.heap.size, 1, none⟩) hlo).trans q1; have y2 := (hSw.cell (p := ⟨b, off + k, none⟩) hbw).trans d0
          go_simp
        simp only [Act.put, List.getElem_toArray, List.getElem_cons_succ, List.getElem_cons_zero, List.setIfInBounds_toArray, List.set_cons_zero, List.set_cons_succ]
        refine wpDet_take (v := ?_) rfl (by kernel_rfl) (fun w0 hSw => ?_) ?_
        rotate_left 1
        · have y0 := (hSw.cell (p := ⟨w.heap.size, 0, none⟩) hlo).trans q0; have y1 := (hSw.cell (p := ⟨w.heap.size, 1, none⟩) hlo).trans q1; have y2 := (hSw.cell (p := ⟨b, off + k, none⟩) hbw).trans d0
          go_simp
          with_reducible rfl
        simp only [Act.put, List.getElem_toArray, List.getElem_cons_succ, List.getElem_cons_zero, List.setIfInBounds_toArray, List.set_cons_zero, List.set_cons_succ]
        refine wpDet_take (v := ?_) rfl (by kernel_rfl) (fun w0 hSw => ?_) ?_
        rotate_left 1
        · have y0 := (hSw.cell (p := ⟨w.heap.size, 0, none⟩) hlo).trans q0; have y1 := (hSw.cell (p := ⟨w.heap.size, 1, none⟩) hlo).trans q1; have y2 := (hSw.cell (p := ⟨b, off + k, none⟩) hbw).trans d0
          go_simp
          with_reducible rfl
        simp only [Act.put, List.getElem_toArray, List.getElem_cons_succ, List.getElem_cons_zero, List.setIfInBounds_toArray, List.set_cons_zero, List.set_cons_succ]
        refine wpDet_take (v := ?_) rfl (by kernel_rfl) (fun w0 hSw => ?_) ?_
        rotate_left 1
        · have y0 := (hSw.cell (p := ⟨w.heap.size, 0, none⟩) hlo).trans q0; have y1 := (hSw.cell (p := ⟨w.heap.size, 1, none⟩) hlo).trans q1; have y2 := (hSw.cell (p := ⟨b, off + k, none⟩) hbw).trans d0
          go_simp
          with_reducible rfl
        simp only [Act.put, List.getElem_toArray, List.getElem_cons_succ, List.getElem_cons_zero, List.setIfInBounds_toArray, List.set_cons_zero, List.set_cons_succ]
        refine wpDet_take (v := ?_) rfl (by kernel_rfl) (fun w0 hSw => ?_) ?_
        rotate_left 1
        · have y0 := (hSw.cell (p := ⟨w.heap.size, 0, none⟩) hlo).trans q0; have y1 := (hSw.cell (p := ⟨w.heap.size, 1, none⟩) hlo).trans q1; have y2 := (hSw.cell (p := ⟨b, off + k, none⟩) hbw).trans d0
          go_simp
          with_reducible rfl
        simp only [Act.put, List.getElem_toArray, List.getElem_cons_succ, List.getElem_cons_zero, List.setIfInBounds_toArray, List.set_cons_zero, List.set_cons_succ]
        refine wpDet_skip rfl (by kernel_rfl) ?_
        simp only [Act.put, List.getElem_toArray, List.getElem_cons_succ, List.getElem_cons_zero, List.setIfInBounds_toArray, List.set_cons_zero, List.set_cons_succ]
        refine wpDet_skip rfl (by kernel_rfl) ?_
        simp only [Act.put, List.getElem_toArray, List.getElem_cons_succ, List.getElem_cons_zero, List.setIfInBounds_toArray, List.set_cons_zero, List.set_cons_succ]
        refine wpDet_skip rfl (by kernel_rfl) ?_
        simp only [Act.put, List.getElem_toArray, List.getElem_cons_succ, List.getElem_cons_zero, List.setIfInBounds_toArray, List.set_cons_zero, List.set_cons_succ]
        refine wpDet_skip rfl (by kernel_rfl) ?_
        simp only [Act.put, List.getElem_toArray, List.getElem_cons_succ, List.getElem_cons_zero, List.setIfInBounds_toArray, List.set_cons_zero, List.set_cons_succ]
        refine wpDet_skip rfl (by kernel_rfl) ?_
        simp only [Act.put, List.getElem_toArray, List.getElem_cons_succ, List.getElem_cons_zero, List.setIfInBounds_toArray, List.set_cons_zero, List.set_cons_succ]
        refine wpDet_skip rfl (by kernel_rfl) ?_
        simp only [Act.put, List.getElem_toArray, List.getElem_cons_succ, List.getElem_cons_zero, List.setIfInBounds_toArray, List.set_cons_zero, List.set_cons_succ]
        refine wpDet_skip rfl (by kernel_rfl) ?_
        simp only [Act.put, List.getElem_toArray, List.getElem_cons_succ, List.getElem_cons_zero, List.setIfInBounds_toArray, List.set_cons_zero, List.set_cons_succ]
        refine wpDet_skip rfl (by kernel_rfl) ?_
        simp only [Act.put, List.getElem_toArray, List.getElem_cons_succ, List.getElem_cons_zero, List.setIfInBounds_toArray, List.set_cons_zero, List.set_cons_succ]
        refine wpDet_skip rfl (by kernel_rfl) ?_
        simp only [Act.put, List.getElem_toArray, List.getElem_cons_succ, List.getElem_cons_zero, List.setIfInBounds_toArray, List.set_cons_zero, List.set_cons_succ]
        refine wpDet_skip rfl (by kernel_rfl) ?_
        simp only [Act.put, List.getElem_toArray, List.getElem_cons_succ, List.getElem_cons_zero, List.setIfInBounds_toArray, List.set_cons_zero, List.set_cons_succ]
        refine wpDet_skip rfl (by kernel_rfl) ?_
        simp only [Act.put, List.getElem_toArray, List.getElem_cons_succ, List.getElem_cons_zero, List.setIfInBounds_toArray, List.set_cons_zero, List.set_cons_succ]
        refine wpDet_done (fun V hV => ?_)
        go_wp2
        go_ret
        exact ⟨by rw [HN.out]; rfl, HBw.out.trans (hV.mono HBw.out.size)⟩
      have z2 := decide_eq_false p2
      by_cases p3 : 0 ≤ ix
      · have hno : stopsB ol n = false := allN_false hlt (by rw [HST.out, decide_eq_true (HMO.out.2 p3)]; simp)
        have HN := Lib.hid hno
        have z3 := decide_eq_true p3
        clear hno p1 p2 p3
        refine wp_region_det 27 (fun w0 => Below wr.heap.size wr w0) (by kernel_rfl) (by kernel_rfl) (Below.refl _ _).drew ?_
        refine wpDet_take (v := ?_) rfl (by kernel_rfl) (fun w0 hSw => ?_) ?_
        rotate_left 1
        · have y0 := (hSw.cell (p := ⟨w.heap.size, 0, none⟩) hlo).trans q0; have y1 := (hSw.cell (p := ⟨w.heap.size, 1, none⟩) hlo).trans q1; have y2 := (hSw.cell (p := ⟨b, off + k, none⟩) hbw).trans d0
          go_simp
          with_reducible rfl
        simp only [Act.put, List.getElem_toArray, List.getElem_cons_succ, List.getElem_cons_zero, List.setIfInBounds_toArray, List.set_cons_zero, List.set_cons_succ]
        refine wpDet_take (v := .slice (some ⟨b, off, none⟩) ol.length c1) rfl (by kernel_rfl) (fun w0 hSw => ?_) ?_
        · have y0 := (hSw.cell (p := ⟨w.heap.size, 0, none⟩) hlo).trans q0; have y1 := (hSw.cell (p := ⟨w.heap.size, 1, none⟩) hlo).trans q1; have y2 := (hSw.cell (p := ⟨b, off + k, none⟩) hbw).trans d0
          go_simp
        simp only [Act.put, List.getElem_toArray, List.getElem_cons_succ, List.getElem_cons_zero, List.setIfInBounds_toArray, List.set_cons_zero, List.set_cons_succ]
        refine wpDet_take (v := ?_) rfl (by kernel_rfl) (fun w0 hSw => ?_) ?_
        rotate_left 1
        · have y0 := (hSw.cell (p := ⟨w.heap.size, 0, none⟩) hlo).trans q0; have y1 := (hSw.cell (p := ⟨w.heap.size, 1, none⟩) hlo).trans q1; have y2 := (hSw.cell (p := ⟨b, off + k, none⟩) hbw).trans d0
          go_simp
          with_reducible rfl
        simp only [Act.put, List.getElem_toArray, List.getElem_cons_succ, List.getElem_cons_zero, List.setIfInBounds_toArray, List.set_cons_zero, List.set_cons_succ]
        refine wpDet_take (v := .pointer (some ⟨b, off + k, none⟩)) rfl (by kernel_rfl) (fun w0 hSw => ?_) ?_
        · have y0 := (hSw.cell (p := ⟨w.heap.size, 0, none⟩) hlo).trans q0; have y1 := (hSw.cell (p := ⟨w.heap.size, 1, none⟩) hlo).trans q1; have y2 := (hSw.cell (p := ⟨b, off + k, none⟩) hbw).trans d0
          go_simp
        simp only [Act.put, List.getElem_toArray, List.getElem_cons_succ, List.getElem_cons_zero, List.setIfInBounds_toArray, List.set_cons_zero, List.set_cons_succ]
        refine wpDet_take (v := .int .i64 o) rfl (by kernel_rfl) (fun w0 hSw => ?_) ?_
        · have y0 := (hSw.cell (p := ⟨w.heap.size, 0, none⟩) hlo).trans q0; have y1 := (hSw.cell (p := ⟨w.heap.size, 1, none⟩) hlo).trans q1; have y2 := (hSw.cell (p := ⟨b, off + k, none⟩) hbw).trans d0
          go_simp
        simp only [Act.put, List.getElem_toArray, List.getElem_cons_succ, List.getElem_cons_zero, List.setIfInBounds_toArray, List.set_cons_zero, List.set_cons_succ]
        refine wpDet_take (v := ?_) rfl (by kernel_rfl) (fun w0 hSw => ?_) ?_
        rotate_left 1
        · have y0 := (hSw.cell (p := ⟨w.heap.size, 0, none⟩) hlo).trans q0; have y1 := (hSw.cell (p := ⟨w.heap.size, 1, none⟩) hlo).trans q1; have y2 := (hSw.cell (p := ⟨b, off + k, none⟩) hbw).trans d0
          go_simp
          with_reducible rfl
        simp only [Act.put, List.getElem_toArray, List.getElem_cons_succ, List.getElem_cons_zero, List.setIfInBounds_toArray, List.set_cons_zero, List.set_cons_succ]
        refine wpDet_take (v := ?_) rfl (by kernel_rfl) (fun w0 hSw => ?_) ?_
        rotate_left 1
        · have y0 := (hSw.cell (p := ⟨w.heap.size, 0, none⟩) hlo).trans q0; have y1 := (hSw.cell (p := ⟨w.heap.size, 1, none⟩) hlo).trans q1; have y2 := (hSw.cell (p := ⟨b, off + k, none⟩) hbw).trans d0
          go_simp
          with_reducible rfl
        simp only [Act.put, List.getElem_toArray, List.getElem_cons_succ, List.getElem_cons_zero, List.setIfInBounds_toArray, List.set_cons_zero, List.set_cons_succ]
        refine wpDet_take (v := ?_) rfl (by kernel_rfl) (fun w0 hSw => ?_) ?_
        rotate_left 1
        · have y0 := (hSw.cell (p := ⟨w.heap.size, 0, none⟩) hlo).trans q0; have y1 := (hSw.cell (p := ⟨w.heap.size, 1, none⟩) hlo).trans q1; have y2 := (hSw.cell (p := ⟨b, off + k, none⟩) hbw).trans d0
          go_simp
          with_reducible rfl
        simp only [Act.put, List.getElem_toArray, List.getElem_cons_succ, List.getElem_cons_zero, List.setIfInBounds_toArray, List.set_cons_zero, List.set_cons_succ]
        refine wpDet_take (v := .slice (some ⟨b, off, none⟩) ol.length c1) rfl (by kernel_rfl) (fun w0 hSw => ?_) ?_
        · have y0 := (hSw.cell (p := ⟨w.heap.size, 0, none⟩) hlo).trans q0; have y1 := (hSw.cell (p := ⟨w.heap.size, 1, none⟩) hlo).trans q1; have y2 := (hSw.cell (p := ⟨b, off + k, none⟩) hbw).trans d0
          go_simp
        simp only [Act.put, List.getElem_toArray, List.getElem_cons_succ, List.getElem_cons_zero, List.setIfInBounds_toArray, List.set_cons_zero, List.set_cons_succ]
        refine wpDet_take (v := ?_) rfl (by kernel_rfl) (fun w0 hSw => ?_) ?_
        rotate_left 1
        · have y0 := (hSw.cell (p := ⟨w.heap.size, 0, none⟩) hlo).trans q0; have y1 := (hSw.cell (p := ⟨w.heap.size, 1, none⟩) hlo).trans q1; have y2 := (hSw.cell (p := ⟨b, off + k, none⟩) hbw).trans d0
          go_simp
          with_reducible rfl
        simp only [Act.put, List.getElem_toArray, List.getElem_cons_succ, List.getElem_cons_zero, List.setIfInBounds_toArray, List.set_cons_zero, List.set_cons_succ]
        refine wpDet_take (v := .pointer (some ⟨b, off + k, none⟩)) rfl (by kernel_rfl) (fun w0 hSw => ?_) ?_
        · have y0 := (hSw.cell (p := ⟨w.heap.size, 0, none⟩) hlo).trans q0; have y1 := (hSw.cell (p := ⟨w.heap.size, 1, none⟩) hlo).trans q1; have y2 := (hSw.cell (p := ⟨b, off + k, none⟩) hbw).trans d0
          go_simp
        simp only [Act.put, List.getElem_toArray, List.getElem_cons_succ, List.getElem_cons_zero, List.setIfInBounds_toArray, List.set_cons_zero, List.set_cons_succ]
        refine wpDet_take (v := .int .i64 o) rfl (by kernel_rfl) (fun w0 hSw => ?_) ?_
        · have y0 := (hSw.cell (p := ⟨w.heap.size, 0, none⟩) hlo).trans q0; have y1 := (hSw.cell (p := ⟨w.heap.size, 1, none⟩) hlo).trans q1; have y2 := (hSw.cell (p := ⟨b, off + k, none⟩) hbw).trans d0
          go_simp
        simp only [Act.put, List.getElem_toArray, List.getElem_cons_succ, List.getElem_cons_zero, List.setIfInBounds_toArray, List.set_cons_zero, List.set_cons_succ]
        refine wpDet_take (v := ?_) rfl (by kernel_rfl) (fun w0 hSw => ?_) ?_
        rotate_left 1
        · have y0 := (hSw.cell (p := ⟨w.heap.size, 0, none⟩) hlo).trans q0; have y1 := (hSw.cell (p := ⟨w.heap.size, 1, none⟩) hlo).trans q1; have y2 := (hSw.cell (p := ⟨b, off + k, none⟩) hbw).trans d0
          go_simp
          with_reducible rfl
        simp only [Act.put, List.getElem_toArray, List.getElem_cons_succ, List.getElem_cons_zero, List.setIfInBounds_toArray, List.set_cons_zero, List.set_cons_succ]
        refine wpDet_take (v := ?_) rfl (by kernel_rfl) (fun w0 hSw => ?_) ?_
        rotate_left 1
        · have y0 := (hSw.cell (p := ⟨w.heap.size, 0, none⟩) hlo).trans q0; have y1 := (hSw.cell (p := ⟨w.heap.size, 1, none⟩) hlo).trans q1; have y2 := (hSw.cell (p := ⟨b, off + k, none⟩) hbw).trans d0
          go_simp
          with_reducible rfl
        simp only [Act.put, List.getElem_toArray, List.getElem_cons_succ, List.getElem_cons_zero, List.setIfInBounds_toArray, List.set_cons_zero, List.set_cons_succ]
        refine wpDet_take (v := ?_) rfl (by kernel_rfl) (fun w0 hSw => ?_) ?_
        rotate_left 1
        · have y0 := (hSw.cell (p := ⟨w.heap.size, 0, none⟩) hlo).trans q0; have y1 := (hSw.cell (p := ⟨w.heap.size, 1, none⟩) hlo).trans q1; have y2 := (hSw.cell (p := ⟨b, off + k, none⟩) hbw).trans d0
          go_simp
          with_reducible rfl
        simp only [Act.put, List.getElem_toArray, List.getElem_cons_succ, List.getElem_cons_zero, List.setIfInBounds_toArray, List.set_cons_zero, List.set_cons_succ]
        refine wpDet_take (v := ?_) rfl (by kernel_rfl) (fun w0 hSw => ?_) ?_
        rotate_left 1
        · have y0 := (hSw.cell (p := ⟨w.heap.size, 0, none⟩) hlo).trans q0; have y1 := (hSw.cell (p := ⟨w.heap.size, 1, none⟩) hlo).trans q1; have y2 := (hSw.cell (p := ⟨b, off + k, none⟩) hbw).trans d0
          go_simp
          with_reducible rfl
        simp only [Act.put, List.getElem_toArray, List.getElem_cons_succ, List.getElem_cons_zero, List.setIfInBounds_toArray, List.set_cons_zero, List.set_cons_succ]
        refine wpDet_take (v := ?_) rfl (by kernel_rfl) (fun w0 hSw => ?_) ?_
        rotate_left 1
        · have y0 := (hSw.cell (p := ⟨w.heap.size, 0, none⟩) hlo).trans q0; have y1 := (hSw.cell (p := ⟨w.heap.size, 1, none⟩) hlo).trans q1; have y2 := (hSw.cell (p := ⟨b, off + k, none⟩) hbw).trans d0
          go_simp
          with_reducible rfl
        simp only [Act.put, List.getElem_toArray, List.getElem_cons_succ, List.getElem_cons_zero, List.setIfInBounds_toArray, List.set_cons_zero, List.set_cons_succ]
        refine wpDet_take (v := .slice (some ⟨b, off, none⟩) ol.length c1) rfl (by kernel_rfl) (fun w0 hSw => ?_) ?_
        · have y0 := (hSw.cell (p := ⟨w.heap.size, 0, none⟩) hlo).trans q0; have y1 := (hSw.cell (p := ⟨w.heap.size, 1, none⟩) hlo).trans q1; have y2 := (hSw.cell (p := ⟨b, off + k, none⟩) hbw).trans d0
          go_simp
        simp only [Act.put, List.getElem_toArray, List.getElem_cons_succ, List.getElem_cons_zero, List.setIfInBounds_toArray, List.set_cons_zero, List.set_cons_succ]
        refine wpDet_take (v := ?_) rfl (by kernel_rfl) (fun w0 hSw => ?_) ?_
        rotate_left 1
        · have y0 := (hSw.cell (p := ⟨w.heap.size, 0, none⟩) hlo).trans q0; have y1 := (hSw.cell (p := ⟨w.heap.size, 1, none⟩) hlo).trans q1; have y2 := (hSw.cell (p := ⟨b, off + k, none⟩) hbw).trans d0
          go_simp
          with_reducible rfl
        simp only [Act.put, List.getElem_toArray, List.getElem_cons_succ, List.getElem_cons_zero, List.setIfInBounds_toArray, List.set_cons_zero, List.set_cons_succ]
        refine wpDet_take (v := .slice (some ⟨b, off, none⟩) k c1) rfl (by kernel_rfl) (fun w0 hSw => ?_) ?_
        · have y0 := (hSw.cell (p := ⟨w.heap.size, 0, none⟩) hlo).trans q0; have y1 := (hSw.cell (p := ⟨w.heap.size, 1, none⟩) hlo).trans q1; have y2 := (hSw.cell (p := ⟨b, off + k, none⟩) hbw).trans d0
          go_simp
        simp only [Act.put, List.getElem_toArray, List.getElem_cons_succ, List.getElem_cons_zero, List.setIfInBounds_toArray, List.set_cons_zero, List.set_cons_succ]
        refine wpDet_take (v := ?_) rfl (by kernel_rfl) (fun w0 hSw => ?_) ?_
        rotate_left 1
        · have y0 := (hSw.cell (p := ⟨w.heap.size, 0, none⟩) hlo).trans q0; have y1 := (hSw.cell (p := ⟨w.heap.size, 1, none⟩) hlo).trans q1; have y2 := (hSw.cell (p := ⟨b, off + k, none⟩) hbw).trans d0
          go_simp
          with_reducible rfl
        simp only [Act.put, List.getElem_toArray, List.getElem_cons_succ, List.getElem_cons_zero, List.setIfInBounds_toArray, List.set_cons_zero, List.set_cons_succ]
        refine wpDet_take (v := .slice (some ⟨b, off, none⟩) ol.length c1) rfl (by kernel_rfl) (fun w0 hSw => ?_) ?_
        · have y0 := (hSw.cell (p := ⟨w.heap.size, 0, none⟩) hlo).trans q0; have y1 := (hSw.cell (p := ⟨w.heap.size, 1, none⟩) hlo).trans q1; have y2 := (hSw.cell (p := ⟨b, off + k, none⟩) hbw).trans d0
          go_simp
        simp only [Act.put, List.getElem_toArray, List.getElem_cons_succ, List.getElem_cons_zero, List.setIfInBounds_toArray, List.set_cons_zero, List.set_cons_succ]
        refine wpDet_take (v := ?_) rfl (by kernel_rfl) (fun w0 hSw => ?_) ?_
        rotate_left 1
        · have y0 := (hSw.cell (p := ⟨w.heap.size, 0, none⟩) hlo).trans q0; have y1 := (hSw.cell (p := ⟨w.heap.size, 1, none⟩) hlo).trans q1; have y2 := (hSw.cell (p := ⟨b, off + k, none⟩) hbw).trans d0
          go_simp
          with_reducible rfl
        simp only [Act.put, List.getElem_toArray, List.getElem_cons_succ, List.getElem_cons_zero, List.setIfInBounds_toArray, List.set_cons_zero, List.set_cons_succ]
        refine wpDet_take (v := .pointer (some ⟨b, off + k, none⟩)) rfl (by kernel_rfl) (fun w0 hSw => ?_) ?_
        · have y0 := (hSw.cell (p := ⟨w.heap.size, 0, none⟩) hlo).trans q0; have y1 := (hSw.cell (p := ⟨w.heap.size, 1, none⟩) hlo).trans q1; have y2 := (hSw.cell (p := ⟨b, off + k, none⟩) hbw).trans d0
          go_simp
        simp only [Act.put, List.getElem_toArray, List.getElem_cons_succ, List.getElem_cons_zero, List.setIfInBounds_toArray, List.set_cons_zero, List.set_cons_succ]
        refine wpDet_take (v := .int .i64 o) rfl (by kernel_rfl) (fun w0 hSw => ?_) ?_
        · have y0 := (hSw.cell (p := ⟨w.heap.size, 0, none⟩) hlo).trans q0; have y1 := (hSw.cell (p := ⟨w.heap.size, 1, none⟩) hlo).trans q1; have y2 := (hSw.cell (p := ⟨b, off + k, none⟩) hbw).trans d0
          go_simp
        simp only [Act.put, List.getElem_toArray, List.getElem_cons_succ, List.getElem_cons_zero, List.setIfInBounds_toArray, List.set_cons_zero, List.set_cons_succ]
        refine wpDet_call (v := .int .i64 ix) rfl (by kernel_rfl) (fun w0 hSw K hK => ?_) ?_
        · go_simp
          go_at_call 112
          refine (IXC2.out _ (HBw.out.trans (hSw.mono HBw.out.size))).mono ?_
          rintro e w9 ⟨rfl, rfl⟩
          exact hK _ hSw
        simp only [Act.put, List.getElem_toArray, List.getElem_cons_succ, List.getElem_cons_zero, List.setIfInBounds_toArray, List.set_cons_zero, List.set_cons_succ]
        refine wpDet_take (v := ?_) rfl (by kernel_rfl) (fun w0 hSw => ?_) ?_
        rotate_left 1
        · have y0 := (hSw.cell (p := ⟨w.heap.size, 0, none⟩) hlo).trans q0; have y1 := (hSw.cell (p := ⟨w.heap.size, 1, none⟩) hlo).trans q1; have y2 := (hSw.cell (p := ⟨b, off + k, none⟩) hbw).trans d0
          go_simp
          with_reducible rfl
        simp only [Act.put, List.getElem_toArray, List.getElem_cons_succ, List.getElem_cons_zero, List.setIfInBounds_toArray, List.set_cons_zero, List.set_cons_succ]
        refine wpDet_done (fun V hV => ?_)
        go_wp2
        go_ret
        exact ⟨by rw [HN.out]; rfl, HBw.out.trans (hV.mono HBw.out.size)⟩
      · have z3 := decide_eq_false p3
        have hyy : stopB ol n k = true := by rw [HST.out, decide_eq_true (show 0 ≤ o by omega), decide_eq_true (show o ≤ n - 1 by omega), decide_eq_false (fun hh => p3 (HMO.out.1 hh))]; rfl
        have HYY := Lib.hid hyy
        clear hyy p1 p2 p3
        refine wp_region_det 27 (fun w0 => Below wr.heap.size wr w0) (by kernel_rfl) (by kernel_rfl) (Below.refl _ _).drew ?_
        refine wpDet_take (v := ?_) rfl (by kernel_rfl) (fun w0 hSw => ?_) ?_
        rotate_left 1
        · have y0 := (hSw.cell (p := ⟨w.heap.size, 0, none⟩) hlo).trans q0; have y1 := (hSw.cell (p := ⟨w.heap.size, 1, none⟩) hlo).trans q1; have y2 := (hSw.cell (p := ⟨b, off + k, none⟩) hbw).trans d0
          go_simp
          with_reducible rfl
        simp only [Act.put, List.getElem_toArray, List.getElem_cons_succ, List.getElem_cons_zero, List.setIfInBounds_toArray, List.set_cons_zero, List.set_cons_succ]
        refine wpDet_take (v := .slice (some ⟨b, off, none⟩) ol.length c1) rfl (by kernel_rfl) (fun w0 hSw => ?_) ?_
        · have y0 := (hSw.cell (p := ⟨w.heap.size, 0, none⟩) hlo).trans q0; have y1 := (hSw.cell (p := ⟨w.heap.size, 1, none⟩) hlo).trans q1; have y2 := (hSw.cell (p := ⟨b, off + k, none⟩) hbw).trans d0
          go_simp
        simp only [Act.put, List.getElem_toArray, List.getElem_cons_succ, List.getElem_cons_zero, List.setIfInBounds_toArray, List.set_cons_zero, List.set_cons_succ]
        refine wpDet_take (v := ?_) rfl (by kernel_rfl) (fun w0 hSw => ?_) ?_
        rotate_left 1
        · have y0 := (hSw.cell (p := ⟨w.heap.size, 0, none⟩) hlo).trans q0; have y1 := (hSw.cell (p := ⟨w.heap.size, 1, none⟩) hlo).trans q1; have y2 := (hSw.cell (p := ⟨b, off + k, none⟩) hbw).trans d0
          go_simp
          with_reducible rfl
        simp only [Act.put, List.getElem_toArray, List.getElem_cons_succ, List.getElem_cons_zero, List.setIfInBounds_toArray, List.set_cons_zero, List.set_cons_succ]
        refine wpDet_take (v := .pointer (some ⟨b, off + k, none⟩)) rfl (by kernel_rfl) (fun w0 hSw => ?_) ?_
        · have y0 := (hSw.cell (p := ⟨w.heap.size, 0, none⟩) hlo).trans q0; have y1 := (hSw.cell (p := ⟨w.heap.size, 1, none⟩) hlo).trans q1; have y2 := (hSw.cell (p := ⟨b, off + k, none⟩) hbw).trans d0
          go_simp
        simp only [Act.put, List.getElem_toArray, List.getElem_cons_succ, List.getElem_cons_zero, List.setIfInBounds_toArray, List.set_cons_zero, List.set_cons_succ]
        refine wpDet_take (v := .int .i64 o) rfl (by kernel_rfl) (fun w0 hSw => ?_) ?_
        · have y0 := (hSw.cell (p := ⟨w.heap.size, 0, none⟩) hlo).trans q0; have y1 := (hSw.cell (p := ⟨w.heap.size, 1, none⟩) hlo).trans q1; have y2 := (hSw.cell (p := ⟨b, off + k, none⟩) hbw).trans d0
          go_simp
        simp only [Act.put, List.getElem_toArray, List.getElem_cons_succ, List.getElem_cons_zero, List.setIfInBounds_toArray, List.set_cons_zero, List.set_cons_succ]
        refine wpDet_take (v := ?_) rfl (by kernel_rfl) (fun w0 hSw => ?_) ?_
        rotate_left 1
        · have y0 := (hSw.cell (p := ⟨w.heap.size, 0, none⟩) hlo).trans q0; have y1 := (hSw.cell (p := ⟨w.heap.size, 1, none⟩) hlo).trans q1; have y2 := (hSw.cell (p := ⟨b, off + k, none⟩) hbw).trans d0
          go_simp
          with_reducible rfl
        simp only [Act.put, List.getElem_toArray, List.getElem_cons_succ, List.getElem_cons_zero, List.setIfInBounds_toArray, List.set_cons_zero, List.set_cons_succ]
        refine wpDet_take (v := ?_) rfl (by kernel_rfl) (fun w0 hSw => ?_) ?_
        rotate_left 1
        · have y0 := (hSw.cell (p := ⟨w.heap.size, 0, none⟩) hlo).trans q0; have y1 := (hSw.cell (p := ⟨w.heap.size, 1, none⟩) hlo).trans q1; have y2 := (hSw.cell (p := ⟨b, off + k, none⟩) hbw).trans d0
          go_simp
          with_reducible rfl
        simp only [Act.put, List.getElem_toArray, List.getElem_cons_succ, List.getElem_cons_zero, List.setIfInBounds_toArray, List.set_cons_zero, List.set_cons_succ]
        refine wpDet_take (v := ?_) rfl (by kernel_rfl) (fun w0 hSw => ?_) ?_
        rotate_left 1
        · have y0 := (hSw.cell (p := ⟨w.heap.size, 0, none⟩) hlo).trans q0; have y1 := (hSw.cell (p := ⟨w.heap.size, 1, none⟩) hlo).trans q1; have y2 := (hSw.cell (p := ⟨b, off + k, none⟩) hbw).trans d0
          go_simp
          with_reducible rfl
        simp only [Act.put, List.getElem_toArray, List.getElem_cons_succ, List.getElem_cons_zero, List.setIfInBounds_toArray, List.set_cons_zero, List.set_cons_succ]
        refine wpDet_take (v := .slice (some ⟨b, off, none⟩) ol.length c1) rfl (by kernel_rfl) (fun w0 hSw => ?_) ?_
        · have y0 := (hSw.cell (p := ⟨w.heap.size, 0, none⟩) hlo).trans q0; have y1 := (hSw.cell (p := ⟨w.heap.size, 1, none⟩) hlo).trans q1; have y2 := (hSw.cell (p := ⟨b, off + k, none⟩) hbw).trans d0
          go_simp
        simp only [Act.put, List.getElem_toArray, List.getElem_cons_succ, List.getElem_cons_zero, List.setIfInBounds_toArray, List.set_cons_zero, List.set_cons_succ]
        refine wpDet_take (v := ?_) rfl (by kernel_rfl) (fun w0 hSw => ?_) ?_
        rotate_left 1
        · have y0 := (hSw.cell (p := ⟨w.heap.size, 0, none⟩) hlo).trans q0; have y1 := (hSw.cell (p := ⟨w.heap.size, 1, none⟩) hlo).trans q1; have y2 := (hSw.cell (p := ⟨b, off + k, none⟩) hbw).trans d0
          go_simp
          with_reducible rfl
        simp only [Act.put, List.getElem_toArray, List.getElem_cons_succ, List.getElem_cons_zero, List.setIfInBounds_toArray, List.set_cons_zero, List.set_cons_succ]
        refine wpDet_take (v := .pointer (some ⟨b, off + k, none⟩)) rfl (by kernel_rfl) (fun w0 hSw => ?_) ?_
        · have y0 := (hSw.cell (p := ⟨w.heap.size, 0, none⟩) hlo).trans q0; have y1 := (hSw.cell (p := ⟨w.heap.size, 1, none⟩) hlo).trans q1; have y2 := (hSw.cell (p := ⟨b, off + k, none⟩) hbw).trans d0
          go_simp
        simp only [Act.put, List.getElem_toArray, List.getElem_cons_succ, List.getElem_cons_zero, List.setIfInBounds_toArray, List.set_cons_zero, List.set_cons_succ]
        refine wpDet_take (v := .int .i64 o) rfl (by kernel_rfl) (fun w0 hSw => ?_) ?_
        · have y0 := (hSw.cell (p := ⟨w.heap.size, 0, none⟩) hlo).trans q0; have y1 := (hSw.cell (p := ⟨w.heap.size, 1, none⟩) hlo).trans q1; have y2 := (hSw.cell (p := ⟨b, off + k, none⟩) hbw).trans d0
          go_simp
        simp only [Act.put, List.getElem_toArray, List.getElem_cons_succ, List.getElem_cons_zero, List.setIfInBounds_toArray, List.set_cons_zero, List.set_cons_succ]
        refine wpDet_take (v := ?_) rfl (by kernel_rfl) (fun w0 hSw => ?_) ?_
        rotate_left 1
        · have y0 := (hSw.cell (p := ⟨w.heap.size, 0, none⟩) hlo).trans q0; have y1 := (hSw.cell (p := ⟨w.heap.size, 1, none⟩) hlo).trans q1; have y2 := (hSw.cell (p := ⟨b, off + k, none⟩) hbw).trans d0
          go_simp
          with_reducible rfl
        simp only [Act.put, List.getElem_toArray, List.getElem_cons_succ, List.getElem_cons_zero, List.setIfInBounds_toArray, List.set_cons_zero, List.set_cons_succ]
        refine wpDet_take (v := ?_) rfl (by kernel_rfl) (fun w0 hSw => ?_) ?_
        rotate_left 1
        · have y0 := (hSw.cell (p := ⟨w.heap.size, 0, none⟩) hlo).trans q0; have y1 := (hSw.cell (p := ⟨w.heap.size, 1, none⟩) hlo).trans q1; have y2 := (hSw.cell (p := ⟨b, off + k, none⟩) hbw).trans d0
          go_simp
          with_reducible rfl
        simp only [Act.put, List.getElem_toArray, List.getElem_cons_succ, List.getElem_cons_zero, List.setIfInBounds_toArray, List.set_cons_zero, List.set_cons_succ]
        refine wpDet_take (v := ?_) rfl (by kernel_rfl) (fun w0 hSw => ?_) ?_
        rotate_left 1
        · have y0 := (hSw.cell (p := ⟨w.heap.size, 0, none⟩) hlo).trans q0; have y1 := (hSw.cell (p := ⟨w.heap.size, 1, none⟩) hlo).trans q1; have y2 := (hSw.cell (p := ⟨b, off + k, none⟩) hbw).trans d0
          go_simp
          with_reducible rfl
        simp only [Act.put, List.getElem_toArray, List.getElem_cons_succ, List.getElem_cons_zero, List.setIfInBounds_toArray, List.set_cons_zero, List.set_cons_succ]
        refine wpDet_take (v := ?_) rfl (by kernel_rfl) (fun w0 hSw => ?_) ?_
        rotate_left 1
        · have y0 := (hSw.cell (p := ⟨w.heap.size, 0, none⟩) hlo).trans q0; have y1 := (hSw.cell (p := ⟨w.heap.size, 1, none⟩) hlo).trans q1; have y2 := (hSw.cell (p := ⟨b, off + k, none⟩) hbw).trans d0
          go_simp
          with_reducible rfl
        simp only [Act.put, List.getElem_toArray, List.getElem_cons_succ, List.getElem_cons_zero, List.setIfInBounds_toArray, List.set_cons_zero, List.set_cons_succ]
        refine wpDet_take (v := ?_) rfl (by kernel_rfl) (fun w0 hSw => ?_) ?_
        rotate_left 1
        · have y0 := (hSw.cell (p := ⟨w.heap.size, 0, none⟩) hlo).trans q0; have y1 := (hSw.cell (p := ⟨w.heap.size, 1, none⟩) hlo).trans q1; have y2 := (hSw.cell (p := ⟨b, off + k, none⟩) hbw).trans d0
          go_simp
          with_reducible rfl
        simp only [Act.put, List.getElem_toArray, List.getElem_cons_succ, List.getElem_cons_zero, List.setIfInBounds_toArray, List.set_cons_zero, List.set_cons_succ]
        refine wpDet_take (v := .slice (some ⟨b, off, none⟩) ol.length c1) rfl (by kernel_rfl) (fun w0 hSw => ?_) ?_
        · have y0 := (hSw.cell (p := ⟨w.heap.size, 0, none⟩) hlo).trans q0; have y1 := (hSw.cell (p := ⟨w.heap.size, 1, none⟩) hlo).trans q1; have y2 := (hSw.cell (p := ⟨b, off + k, none⟩) hbw).trans d0
          go_simp
        simp only [Act.put, List.getElem_toArray, List.getElem_cons_succ, List.getElem_cons_zero, List.setIfInBounds_toArray, List.set_cons_zero, List.set_cons_succ]
        refine wpDet_take (v := ?_) rfl (by kernel_rfl) (fun w0 hSw => ?_) ?_
        rotate_left 1
        · have y0 := (hSw.cell (p := ⟨w.heap.size, 0, none⟩) hlo).trans q0; have y1 := (hSw.cell (p := ⟨w.heap.size, 1, none⟩) hlo).trans q1; have y2 := (hSw.cell (p := ⟨b, off + k, none⟩) hbw).trans d0
          go_simp
          with_reducible rfl
        simp only [Act.put, List.getElem_toArray, List.getElem_cons_succ, List.getElem_cons_zero, List.setIfInBounds_toArray, List.set_cons_zero, List.set_cons_succ]
        refine wpDet_take (v := .slice (some ⟨b, off, none⟩) k c1) rfl (by kernel_rfl) (fun w0 hSw => ?_) ?_
        · have y0 := (hSw.cell (p := ⟨w.heap.size, 0, none⟩) hlo).trans q0; have y1 := (hSw.cell (p := ⟨w.heap.size, 1, none⟩) hlo).trans q1; have y2 := (hSw.cell (p := ⟨b, off + k, none⟩) hbw).trans d0
          go_simp
        simp only [Act.put, List.getElem_toArray, List.getElem_cons_succ, List.getElem_cons_zero, List.setIfInBounds_toArray, List.set_cons_zero, List.set_cons_succ]
        refine wpDet_take (v := ?_) rfl (by kernel_rfl) (fun w0 hSw => ?_) ?_
        rotate_left 1
        · have y0 := (hSw.cell (p := ⟨w.heap.size, 0, none⟩) hlo).trans q0; have y1 := (hSw.cell (p := ⟨w.heap.size, 1, none⟩) hlo).trans q1; have y2 := (hSw.cell (p := ⟨b, off + k, none⟩) hbw).trans d0
          go_simp
          with_reducible rfl
        simp only [Act.put, List.getElem_toArray, List.getElem_cons_succ, List.getElem_cons_zero, List.setIfInBounds_toArray, List.set_cons_zero, List.set_cons_succ]
        refine wpDet_take (v := .slice (some ⟨b, off, none⟩) ol.length c1) rfl (by kernel_rfl) (fun w0 hSw => ?_) ?_
        · have y0 := (hSw.cell (p := ⟨w.heap.size, 0, none⟩) hlo).trans q0; have y1 := (hSw.cell (p := ⟨w.heap.size, 1, none⟩) hlo).trans q1; have y2 := (hSw.cell (p := ⟨b, off + k, none⟩) hbw).trans d0
          go_simp
        simp only [Act.put, List.getElem_toArray, List.getElem_cons_succ, List.getElem_cons_zero, List.setIfInBounds_toArray, List.set_cons_zero, List.set_cons_succ]
        refine wpDet_take (v := ?_) rfl (by kernel_rfl) (fun w0 hSw => ?_) ?_
        rotate_left 1
        · have y0 := (hSw.cell (p := ⟨w.heap.size, 0, none⟩) hlo).trans q0; have y1 := (hSw.cell (p := ⟨w.heap.size, 1, none⟩) hlo).trans q1; have y2 := (hSw.cell (p := ⟨b, off + k, none⟩) hbw).trans d0
          go_simp
          with_reducible rfl
        simp only [Act.put, List.getElem_toArray, List.getElem_cons_succ, List.getElem_cons_zero, List.setIfInBounds_toArray, List.set_cons_zero, List.set_cons_succ]
        refine wpDet_take (v := .pointer (some ⟨b, off + k, none⟩)) rfl (by kernel_rfl) (fun w0 hSw => ?_) ?_
        · have y0 := (hSw.cell (p := ⟨w.heap.size, 0, none⟩) hlo).trans q0; have y1 := (hSw.cell (p := ⟨w.heap.size, 1, none⟩) hlo).trans q1; have y2 := (hSw.cell (p := ⟨b, off + k, none⟩) hbw).trans d0
          go_simp
        simp only [Act.put, List.getElem_toArray, List.getElem_cons_succ, List.getElem_cons_zero, List.setIfInBounds_toArray, List.set_cons_zero, List.set_cons_succ]
        refine wpDet_take (v := .int .i64 o) rfl (by kernel_rfl) (fun w0 hSw => ?_) ?_
        · have y0 := (hSw.cell (p := ⟨w.heap.size, 0, none⟩) hlo).trans q0; have y1 := (hSw.cell (p := ⟨w.heap.size, 1, none⟩) hlo).trans q1; have y2 := (hSw.cell (p := ⟨b, off + k, none⟩) hbw).trans d0
          go_simp
        simp only [Act.put, List.getElem_toArray, List.getElem_cons_succ, List.getElem_cons_zero, List.setIfInBounds_toArray, List.set_cons_zero, List.set_cons_succ]
        refine wpDet_call (v := .int .i64 ix) rfl (by kernel_rfl) (fun w0 hSw K hK => ?_) ?_
        · go_simp
          go_at_call 112
          refine (IXC2.out _ (HBw.out.trans (hSw.mono HBw.out.size))).mono ?_
          rintro e w9 ⟨rfl, rfl⟩
          exact hK _ hSw
        simp only [Act.put, List.getElem_toArray, List.getElem_cons_succ, List.getElem_cons_zero, List.setIfInBounds_toArray, List.set_cons_zero, List.set_cons_succ]
        refine wpDet_take (v := ?_) rfl (by kernel_rfl) (fun w0 hSw => ?_) ?_
        rotate_left 1
        · have y0 := (hSw.cell (p := ⟨w.heap.size, 0, none⟩) hlo).trans q0; have y1 := (hSw.cell (p := ⟨w.heap.size, 1, none⟩) hlo).trans q1; have y2 := (hSw.cell (p := ⟨b, off + k, none⟩) hbw).trans d0
          go_simp
          with_reducible rfl
        simp only [Act.put, List.getElem_toArray, List.getElem_cons_succ, List.getElem_cons_zero, List.setIfInBounds_toArray, List.set_cons_zero, List.set_cons_succ]
        refine wpDet_done (fun V hV => ?_)
        go_wp2
        go_roundg (gk - 1)
        case measure => omega
        case rel => exact ⟨k + 1, by first | rfl | go_num, by omega, HBw.out.trans (hV.mono HBw.out.size), hr0.below hV hlo, fun q hq => by
          by_cases hqk : q = k
          · subst hqk; exact HYY.out
          · exact HA.out q (by omega)⟩
    · obtain rfl : k = ol.length := by omega
      have hyes : stopsB ol n = true := allN_true HA.out
      have HY := Lib.hid hyes
      clear hyes
      have w1 : IntKind.i64.wrap ((ol.length : Int) - 1) = (ol.length : Int) - 1 := IntWalk.i64_in _ (by have := HO.out.1; omega)
      have w2 : (ol.length : Int) - 1 = (gl.length : Int) := by have := HGL.out; omega
      obtain ⟨wo, rfl⟩ : ∃ wo : World, wo = wr := ⟨_, rfl⟩
      clear q0 q1 w1 w2
      go_wp2_with fail
      go_loopg [7] gl.length (fun gg iv wr => ∃ k : Nat, iv = .int .i64 k ∧ k + gg = gl.length ∧ Below w.heap.size w wr ∧ Row wr w.heap.size 68 [.slice (some ⟨b, off, none⟩) ol.length c1, .slice A2 gl.length c2, .int .i64 cl, .int .i64 rm, .slice A3 n3 c3, .slice A4 n4 c4] ∧ Hid (∀ q, q < k → legB (gl.getD q default) = true))
      case atStart => exact ⟨0, rfl, by omega, hBr, hr0, fun q hq => by omega⟩
      case round =>
        clear hBr hr0 hlo HA hkg hlt
        obtain ⟨k, rfl, hkg, hBr, hr0, HA⟩ := hrel
        have hlo := hr0.lt
        have q0 := hr0.cell 0
        have q1 := hr0.cell 1
        have w1 : (ol.length : Int) - 1 = (gl.length : Int) := by have := HGL.out; omega
        have w2 : IntKind.i64.wrap (gl.length : Int) = (gl.length : Int) := IntWalk.i64_in _ (by have := HG.out.1; omega)
        by_cases hlt : k < gl.length
        · obtain ⟨_, A9, c9, hv9, hE⟩ := HG.out.below hBr
          cases hv9
          obtain ⟨b, off, rfl, hbb, hE⟩ := hE (by omega)
          have d0 := CellsG.int hE hlt
          have hbw : b < wr.heap.size := Nat.lt_of_lt_of_le hbb hBr.size
          have hbad : legB (gl.getD k default) = false → gl.all legB = false := fun e => by
            rw [List.all_eq_false]
            refine ⟨gl.getD k default, ?_, by rw [e]; decide⟩
            rw [getD_at hlt]
            exact List.getElem_mem _
          obtain ⟨o, ho⟩ : ∃ o, gl.getD k default = o := ⟨_, rfl⟩
          rw [ho] at d0 hbad
          have HX := Lib.hid ho
          have s1 : (0 : Int) ≤ k := by omega
          have s2 : (k : Int) < gl.length := by omega
          have HBw := Lib.hid hBr
          clear hE ho
          unfold legB btwB at hbad
          have HBAD := Lib.hid hbad
          clear hbad
          by_cases p1 : o < 1
          · have hno := HBAD.out (by rw [decide_eq_false (show ¬ 1 ≤ o by omega)]; rfl)
            have HN := Lib.hid hno
            have z1 := decide_eq_true p1
            clear hno p1
            go_wp2
            go_ret
            refine ⟨?_, HBw.out⟩
            have e := HN.out
            change gl.all legB = false at e
            rw [e, Bool.and_false]; rfl
          have z1 := decide_eq_false p1
          by_cases p2 : 100000 < o
          · have hno := HBAD.out (by rw [decide_eq_false (show ¬ o ≤ 100000 by omega), Bool.and_false])
            have HN := Lib.hid hno
            have z2 := decide_eq_true p2
            clear hno p1 p2
            go_wp2
            go_ret
            refine ⟨?_, HBw.out⟩
            have e := HN.out
            change gl.all legB = false at e
            rw [e, Bool.and_false]; rfl
          · have z2 := decide_eq_false p2
            have hyy : legB o = true := by unfold legB btwB; rw [decide_eq_true (show 1 ≤ o by omega), decide_eq_true (show o ≤ 100000 by omega)]; rfl
            have HYY := Lib.hid hyy
            clear hyy p1 p2
            go_wp2
            go_roundg (gk - 1)
            case measure => omega
            case rel => exact ⟨k + 1, by first | rfl | go_num, by omega, HBw.out, hr0, fun q hq => by
              by_cases hqk : q = k
              · subst hqk; rw [HX.out]; exact HYY.out
              · exact HA.out q (by omega)⟩
        · obtain rfl : k = gl.length := by omega
          have hyes : gl.all legB = true := by
            rw [List.all_eq_true]
            intro x hx
            obtain ⟨i, hi, rfl⟩ := List.getElem_of_mem hx
            have := HA.out i hi
            rw [getD_at hi] at this
            exact this
          have HY2 := Lib.hid hyes
          clear hyes
          go_wp2
          go_ret
          exact ⟨by rw [HY.out, HY2.out]; rfl, hBr⟩
theorem rright_any (x : Lx) (n : Int) (w : World) (hcap : ∃ A c, x.ov = .slice A x.ol.length c ∧ x.ol.length ≤ c) (h : x.okW w w.heap.size) :
    Calls Tryz.prog 55 #[.agg #[x.ov, x.gv, .int .i64 x.cl, .int .i64 x.rm, x.rv, x.pv], .int .i64 n] w fun e w' => e = .returned (.bool (lineB x n)) ∧ Below w.heap.size w w' := by
  obtain ⟨ov, gv, cl, rm, rv, pv, ol, gl, rl, pl⟩ := x
  obtain ⟨h1, h2, h3, h4⟩ := h
  obtain ⟨A, c, hov, hcap⟩ := hcap
  simp only at h1 h2 h3 h4 hcap hov ⊢
  subst hov
  obtain ⟨A2, c2, rfl⟩ : ∃ A2 c2, gv = .slice A2 gl.length c2 := by obtain ⟨_, A2, c2, e, _⟩ := h2; exact ⟨_, _, e⟩
  obtain ⟨_, A3, c3, rfl, _⟩ := h3
  obtain ⟨_, A4, c4, rfl, _⟩ := h4
  have hL : lineB ⟨.slice A ol.length c, .slice A2 gl.length c2, cl, rm, .slice A3 rl.length c3, .slice A4 pl.length c4, ol, gl, rl, pl⟩ n = (((btwB ol.length 2 9 && decide ((gl.length : Int) = (ol.length : Int) - 1)) && (btwB cl 1 255 && btwB rm 1 64)) && (stopsB ol n && gl.all legB)) := by
    unfold lineB sizedB numbersB
    rw [Bool.and_assoc (btwB _ 2 9 && _)]
  rw [hL]
  cases hh : ((btwB ol.length 2 9 && decide ((gl.length : Int) = (ol.length : Int) - 1)) && (btwB cl 1 255 && btwB rm 1 64)) with
  | false => rw [Bool.false_and]; exact rright_bad A ol.length c A2 gl.length c2 cl rm A3 rl.length c3 A4 pl.length c4 n w hh
  | true => rw [Bool.true_and]; exact rright_good A c ol A2 c2 gl cl rm A3 rl.length c3 A4 pl.length c4 n w hcap h1 h2 hh
end Go.Proofs.YthckledagggoiaaGreatDoor

set_option linter.unusedSimpArgs false
set_option linter.unusedVariables false
namespace Go.Proofs.YthckledagggoiaaGreatDoor
open Go.RowKit Go.Shelf Fk Sha
/-! frankingref20.Check, Few. -/
def capX (l : List Lx) : Prop := ∀ i, i < l.length → ∃ A c, (l.getD i default).ov = .slice A (l.getD i default).ol.length c ∧ (l.getD i default).ol.length ≤ c
set_option maxRecDepth 100000 in
set_option maxHeartbeats 4000000 in
theorem rtt_few (l : List Lx) (N : Nat) (hN : N ≤ 24) (v : Value) (w : World) (h : SlX w w.heap.size v l) (hcap : capX l) (hl : l.length ≤ 64) :
    Calls Tryz.prog 20 #[ttV N v] w fun e w' => e = .returned (.int .i64 (ttQ l N)) ∧ Below w.heap.size w w' := by
  have HS := Lib.hid h
  obtain ⟨⟨_, A, c, rfl, _⟩, _⟩ := h
  have f1 : decide (64 < (l.length : Int)) = false := decide_eq_false (by omega)
  have f2 : decide ((N : Int) < 0) = false := decide_eq_false (by omega)
  have f3 : decide (24 < (N : Int)) = false := decide_eq_false (by omega)
  have f4 : ¬ 24 < N := by omega
  have hB0 := below_alloc' w (.cells #[.int .i64 N, .slice A l.length c] 24)
  have r0 := Row.new w 24 [.int .i64 N, .slice A l.length c]
  go_enter Tryz.func20, Tryz.ntmps20
  go_wp2_with fail
  clear f1 f2 f3 f4
  go_loopg [3] l.length (fun gg iv wr => ∃ k : Nat, iv = .int .i64 k ∧ k + gg = l.length ∧ Below w.heap.size w wr ∧ Row wr w.heap.size 24 [.int .i64 N, .slice A l.length c] ∧ Hid (∀ q, q < k → lineB (l.getD q default) N = true))
  case atStart => exact ⟨0, rfl, by omega, hB0, r0, fun q hq => by omega⟩
  case round =>
    clear hB0 r0
    obtain ⟨k, rfl, hkg, hBr, hr0, HA⟩ := hrel
    have q0 := hr0.cell 0
    have q1 := hr0.cell 1
    have hlo := hr0.lt
    by_cases hlt : k < l.length
    · obtain ⟨_, A', c', hv, hE⟩ := (HS.out.below hBr).1
      obtain ⟨b, off, rfl, hbb, hE⟩ := hE (by omega)
      cases hv
      obtain ⟨d0, d1, d2, d3, d4, d5⟩ := cellsX hE hlt
      have hok := HS.out.2 k hlt
      have hcx := hcap k hlt
      obtain ⟨x, hx⟩ : ∃ x, l.getD k default = x := ⟨_, rfl⟩
      rw [hx] at d0 d1 d2 d3 d4 d5 hok hcx
      have HX := Lib.hid hx
      have hm := fun W (hb : Below w.heap.size w W) => rright_any x N W hcx (hok.below hb)
      clear hcx
      obtain ⟨ov, gv, cl, rm, rv, pv, ol, gl, rl, pl⟩ := x
      obtain ⟨⟨_, a1, c1, u1, _⟩, ⟨_, a2, c2, u2, _⟩, ⟨_, a3, c3, u3, _⟩, ⟨_, a4, c4, u4, _⟩⟩ := hok
      simp only at d0 d1 d2 d3 d4 d5 u1 u2 u3 u4 hm
      subst u1 u2 u3 u4
      have s1 : (0 : Int) ≤ k := by omega
      have s2 : (k : Int) < l.length := by omega
      have HBw := Lib.hid hBr
      have hbw := hbb
      obtain ⟨B, hB⟩ : ∃ B, lineB ⟨.slice a1 ol.length c1, .slice a2 gl.length c2, cl, rm, .slice a3 rl.length c3, .slice a4 pl.length c4, ol, gl, rl, pl⟩ N = B := ⟨_, rfl⟩
      rw [hB] at hm
      have HB := Lib.hid hB
      have HR := Lib.hid hm
      clear hE hx hm hB
      go_upto_region 8 with fail
      cases B with
      | true =>
        refine wp_region_det 8 (fun w0 => Below wr.heap.size wr w0) (by kernel_rfl) (by kernel_rfl) (Below.refl _ _).drew ?_
        refine wpDet_take (v := ?_) rfl (by kernel_rfl) (fun w0 hSw => ?_) ?_
        rotate_left 1
        · have y0 := (hSw.cell (p := ⟨w.heap.size, 0, none⟩) hlo).trans q0; have y1 := (hSw.cell (p := ⟨w.heap.size, 1, none⟩) hlo).trans q1
          go_simp
          with_reducible rfl
        simp only [Act.put, List.getElem_toArray, List.getElem_cons_succ, List.getElem_cons_zero, List.setIfInBounds_toArray, List.set_cons_zero, List.set_cons_succ]
        refine wpDet_take (v := .slice (some ⟨b, off, none⟩) l.length c) rfl (by kernel_rfl) (fun w0 hSw => ?_) ?_
        · have y0 := (hSw.cell (p := ⟨w.heap.size, 0, none⟩) hlo).trans q0; have y1 := (hSw.cell (p := ⟨w.heap.size, 1, none⟩) hlo).trans q1
          go_simp
        simp only [Act.put, List.getElem_toArray, List.getElem_cons_succ, List.getElem_cons_zero, List.setIfInBounds_toArray, List.set_cons_zero, List.set_cons_succ]
        refine wpDet_take (v := ?_) rfl (by kernel_rfl) (fun w0 hSw => ?_) ?_
        rotate_left 1
        · have y0 := (hSw.cell (p := ⟨w.heap.size, 0, none⟩) hlo).trans q0; have y1 := (hSw.cell (p := ⟨w.heap.size, 1, none⟩) hlo).trans q1
          go_simp
          with_reducible rfl
        simp only [Act.put, List.getElem_toArray, List.getElem_cons_succ, List.getElem_cons_zero, List.setIfInBounds_toArray, List.set_cons_zero, List.set_cons_succ]
        refine wpDet_take (v := .pointer (some ⟨b, off + k * 6, none⟩)) rfl (by kernel_rfl) (fun w0 hSw => ?_) ?_
        · have y0 := (hSw.cell (p := ⟨w.heap.size, 0, none⟩) hlo).trans q0; have y1 := (hSw.cell (p := ⟨w.heap.size, 1, none⟩) hlo).trans q1
          go_simp
        simp only [Act.put, List.getElem_toArray, List.getElem_cons_succ, List.getElem_cons_zero, List.setIfInBounds_toArray, List.set_cons_zero, List.set_cons_succ]
        refine wpDet_take (v := .agg #[.slice a1 ol.length c1, .slice a2 gl.length c2, .int .i64 cl, .int .i64 rm, .slice a3 rl.length c3, .slice a4 pl.length c4]) rfl (by kernel_rfl) (fun w0 hSw => ?_) ?_
        · have y0 := (hSw.cell (p := ⟨w.heap.size, 0, none⟩) hlo).trans q0; have y1 := (hSw.cell (p := ⟨w.heap.size, 1, none⟩) hlo).trans q1; have z0 := (hSw.cell (p := ⟨b, off + k * 6, none⟩) hbw).trans d0; have z1 := (hSw.cell (p := ⟨b, off + k * 6 + 1, none⟩) hbw).trans d1; have z2 := (hSw.cell (p := ⟨b, off + k * 6 + 2, none⟩) hbw).trans d2; have z3 := (hSw.cell (p := ⟨b, off + k * 6 + 3, none⟩) hbw).trans d3; have z4 := (hSw.cell (p := ⟨b, off + k * 6 + 4, none⟩) hbw).trans d4; have z5 := (hSw.cell (p := ⟨b, off + k * 6 + 5, none⟩) hbw).trans d5
          go_simp
        simp only [Act.put, List.getElem_toArray, List.getElem_cons_succ, List.getElem_cons_zero, List.setIfInBounds_toArray, List.set_cons_zero, List.set_cons_succ]
        refine wpDet_take (v := ?_) rfl (by kernel_rfl) (fun w0 hSw => ?_) ?_
        rotate_left 1
        · have y0 := (hSw.cell (p := ⟨w.heap.size, 0, none⟩) hlo).trans q0; have y1 := (hSw.cell (p := ⟨w.heap.size, 1, none⟩) hlo).trans q1
          go_simp
          with_reducible rfl
        simp only [Act.put, List.getElem_toArray, List.getElem_cons_succ, List.getElem_cons_zero, List.setIfInBounds_toArray, List.set_cons_zero, List.set_cons_succ]
        refine wpDet_take (v := .int .i64 N) rfl (by kernel_rfl) (fun w0 hSw => ?_) ?_
        · have y0 := (hSw.cell (p := ⟨w.heap.size, 0, none⟩) hlo).trans q0; have y1 := (hSw.cell (p := ⟨w.heap.size, 1, none⟩) hlo).trans q1
          go_simp
        simp only [Act.put, List.getElem_toArray, List.getElem_cons_succ, List.getElem_cons_zero, List.setIfInBounds_toArray, List.set_cons_zero, List.set_cons_succ]
        refine wpDet_call (v := .bool true) rfl (by kernel_rfl) (fun w0 hSw K hK => ?_) ?_
        · go_simp
          go_at_call 55
          refine (HR.out _ (HBw.out.trans (hSw.mono HBw.out.size))).mono ?_
          rintro e w9 ⟨rfl, hb⟩
          exact hK _ (hSw.trans (hb.mono hSw.size))
        simp only [Act.put, List.getElem_toArray, List.getElem_cons_succ, List.getElem_cons_zero, List.setIfInBounds_toArray, List.set_cons_zero, List.set_cons_succ]
        refine wpDet_done (fun V hV => ?_)
        go_wp2
        go_roundg (gk - 1)
        case measure => omega
        case rel => exact ⟨k + 1, by first | rfl | go_num, by omega, HBw.out.trans (hV.mono HBw.out.size), hr0.below hV hlo, fun q hq => by
          by_cases hqk : q = k
          · subst hqk; rw [HX.out]; exact HB.out
          · exact HA.out q (by omega)⟩
      | false =>
        have hno : linesB l N = false := allN_false hlt (by rw [HX.out]; exact HB.out)
        have HN := Lib.hid hno
        clear hno
        refine wp_region_det 8 (fun w0 => Below wr.heap.size wr w0) (by kernel_rfl) (by kernel_rfl) (Below.refl _ _).drew ?_
        refine wpDet_take (v := ?_) rfl (by kernel_rfl) (fun w0 hSw => ?_) ?_
        rotate_left 1
        · have y0 := (hSw.cell (p := ⟨w.heap.size, 0, none⟩) hlo).trans q0; have y1 := (hSw.cell (p := ⟨w.heap.size, 1, none⟩) hlo).trans q1
          go_simp
          with_reducible rfl
        simp only [Act.put, List.getElem_toArray, List.getElem_cons_succ, List.getElem_cons_zero, List.setIfInBounds_toArray, List.set_cons_zero, List.set_cons_succ]
        refine wpDet_take (v := .slice (some ⟨b, off, none⟩) l.length c) rfl (by kernel_rfl) (fun w0 hSw => ?_) ?_
        · have y0 := (hSw.cell (p := ⟨w.heap.size, 0, none⟩) hlo).trans q0; have y1 := (hSw.cell (p := ⟨w.heap.size, 1, none⟩) hlo).trans q1
          go_simp
        simp only [Act.put, List.getElem_toArray, List.getElem_cons_succ, List.getElem_cons_zero, List.setIfInBounds_toArray, List.set_cons_zero, List.set_cons_succ]
        refine wpDet_take (v := ?_) rfl (by kernel_rfl) (fun w0 hSw => ?_) ?_
        rotate_left 1
        · have y0 := (hSw.cell (p := ⟨w.heap.size, 0, none⟩) hlo).trans q0; have y1 := (hSw.cell (p := ⟨w.heap.size, 1, none⟩) hlo).trans q1
          go_simp
          with_reducible rfl
        simp only [Act.put, List.getElem_toArray, List.getElem_cons_succ, List.getElem_cons_zero, List.setIfInBounds_toArray, List.set_cons_zero, List.set_cons_succ]
        refine wpDet_take (v := .pointer (some ⟨b, off + k * 6, none⟩)) rfl (by kernel_rfl) (fun w0 hSw => ?_) ?_
        · have y0 := (hSw.cell (p := ⟨w.heap.size, 0, none⟩) hlo).trans q0; have y1 := (hSw.cell (p := ⟨w.heap.size, 1, none⟩) hlo).trans q1
          go_simp
        simp only [Act.put, List.getElem_toArray, List.getElem_cons_succ, List.getElem_cons_zero, List.setIfInBounds_toArray, List.set_cons_zero, List.set_cons_succ]
        refine wpDet_take (v := .agg #[.slice a1 ol.length c1, .slice a2 gl.length c2, .int .i64 cl, .int .i64 rm, .slice a3 rl.length c3, .slice a4 pl.length c4]) rfl (by kernel_rfl) (fun w0 hSw => ?_) ?_
        · have y0 := (hSw.cell (p := ⟨w.heap.size, 0, none⟩) hlo).trans q0; have y1 := (hSw.cell (p := ⟨w.heap.size, 1, none⟩) hlo).trans q1; have z0 := (hSw.cell (p := ⟨b, off + k * 6, none⟩) hbw).trans d0; have z1 := (hSw.cell (p := ⟨b, off + k * 6 + 1, none⟩) hbw).trans d1; have z2 := (hSw.cell (p := ⟨b, off + k * 6 + 2, none⟩) hbw).trans d2; have z3 := (hSw.cell (p := ⟨b, off + k * 6 + 3, none⟩) hbw).trans d3; have z4 := (hSw.cell (p := ⟨b, off + k * 6 + 4, none⟩) hbw).trans d4; have z5 := (hSw.cell (p := ⟨b, off + k * 6 + 5, none⟩) hbw).trans d5
          go_simp
        simp only [Act.put, List.getElem_toArray, List.getElem_cons_succ, List.getElem_cons_zero, List.setIfInBounds_toArray, List.set_cons_zero, List.set_cons_succ]
        refine wpDet_take (v := ?_) rfl (by kernel_rfl) (fun w0 hSw => ?_) ?_
        rotate_left 1
        · have y0 := (hSw.cell (p := ⟨w.heap.size, 0, none⟩) hlo).trans q0; have y1 := (hSw.cell (p := ⟨w.heap.size, 1, none⟩) hlo).trans q1
          go_simp
          with_reducible rfl
        simp only [Act.put, List.getElem_toArray, List.getElem_cons_succ, List.getElem_cons_zero, List.setIfInBounds_toArray, List.set_cons_zero, List.set_cons_succ]
        refine wpDet_take (v := .int .i64 N) rfl (by kernel_rfl) (fun w0 hSw => ?_) ?_
        · have y0 := (hSw.cell (p := ⟨w.heap.size, 0, none⟩) hlo).trans q0; have y1 := (hSw.cell (p := ⟨w.heap.size, 1, none⟩) hlo).trans q1
          go_simp
        simp only [Act.put, List.getElem_toArray, List.getElem_cons_succ, List.getElem_cons_zero, List.setIfInBounds_toArray, List.set_cons_zero, List.set_cons_succ]
        refine wpDet_call (v := .bool false) rfl (by kernel_rfl) (fun w0 hSw K hK => ?_) ?_
        · go_simp
          go_at_call 55
          refine (HR.out _ (HBw.out.trans (hSw.mono HBw.out.size))).mono ?_
          rintro e w9 ⟨rfl, hb⟩
          exact hK _ (hSw.trans (hb.mono hSw.size))
        simp only [Act.put, List.getElem_toArray, List.getElem_cons_succ, List.getElem_cons_zero, List.setIfInBounds_toArray, List.set_cons_zero, List.set_cons_succ]
        refine wpDet_done (fun V hV => ?_)
        go_wp2
        go_ret
        exact ⟨by rw [ttQ_no HN.out]; rfl, HBw.out.trans (hV.mono HBw.out.size)⟩
    · obtain rfl : k = l.length := by omega
      have hyes : linesB l N = true := allN_true HA.out
      have hq := ttQ_yes hyes
      have HY := Lib.hid hq
      clear hyes hq
      obtain ⟨wo, rfl⟩ : ∃ wo : World, wo = wr := ⟨_, rfl⟩
      go_wp2_with fail
      go_loopg [4] l.length (fun gg iv wr => ∃ k : Nat, iv = .int .i64 k ∧ k + gg = l.length ∧ Below w.heap.size w wr ∧ Row wr w.heap.size 24 [.int .i64 N, .slice A l.length c] ∧ Hid (∀ q, q < k → calX (l.getD q default) = 0))
      case atStart => exact ⟨0, rfl, by omega, hBr, hr0, fun q hq => by omega⟩
      case round =>
        clear hBr hr0 hlo HA q0 q1
        obtain ⟨k, rfl, hkg2, hBr, hr0, HA⟩ := hrel
        have q0 := hr0.cell 0
        have q1 := hr0.cell 1
        have hlo := hr0.lt
        by_cases hlt : k < l.length
        · obtain ⟨_, A', c', hv, hE⟩ := (HS.out.below hBr).1
          obtain ⟨b, off, rfl, hbb, hE⟩ := hE (by omega)
          cases hv
          obtain ⟨d0, d1, d2, d3, d4, d5⟩ := cellsX hE hlt
          have hok := HS.out.2 k hlt
          have hca := fun h => calsE_at hlt h HA.out
          obtain ⟨x, hx⟩ : ∃ x, l.getD k default = x := ⟨_, rfl⟩
          rw [hx] at d0 d1 d2 d3 d4 d5 hok hca
          have HX := Lib.hid hx
          have hm := fun W (hb : Below w.heap.size w W) => rcal_any x.rl x.pl x.rv x.pv W (hok.below hb).2.2.1 (hok.below hb).2.2.2
          have hcx : calP x.rl x.pl = calX x := rfl
          rw [hcx] at hm
          obtain ⟨ov, gv, cl, rm, rv, pv, ol, gl, rl, pl⟩ := x
          obtain ⟨⟨_, a1, c1, u1, _⟩, ⟨_, a2, c2, u2, _⟩, ⟨_, a3, c3, u3, _⟩, ⟨_, a4, c4, u4, _⟩⟩ := hok
          simp only at d0 d1 d2 d3 d4 d5 u1 u2 u3 u4 hm
          subst u1 u2 u3 u4
          have s1 : (0 : Int) ≤ k := by omega
          have s2 : (k : Int) < l.length := by omega
          have HBw := Lib.hid hBr
          have hbw := hbb
          obtain ⟨C, hC⟩ : ∃ C, calX ⟨.slice a1 ol.length c1, .slice a2 gl.length c2, cl, rm, .slice a3 rl.length c3, .slice a4 pl.length c4, ol, gl, rl, pl⟩ = C := ⟨_, rfl⟩
          rw [hC] at hm hca
          have HC := Lib.hid hC
          have HR := Lib.hid hm
          clear hE hx hm hC hcx
          go_upto_region 13 with fail
          by_cases hc : C = 0
          · subst hc
            clear hca
            refine wp_region_det 13 (fun w0 => Below wr.heap.size wr w0) (by kernel_rfl) (by kernel_rfl) (Below.refl _ _).drew ?_
            refine wpDet_take (v := ?_) rfl (by kernel_rfl) (fun w0 hSw => ?_) ?_
            rotate_left 1
            · have y0 := (hSw.cell (p := ⟨w.heap.size, 0, none⟩) hlo).trans q0; have y1 := (hSw.cell (p := ⟨w.heap.size, 1, none⟩) hlo).trans q1
              go_simp
              with_reducible rfl
            simp only [Act.put, List.getElem_toArray, List.getElem_cons_succ, List.getElem_cons_zero, List.setIfInBounds_toArray, List.set_cons_zero, List.set_cons_succ]
            refine wpDet_take (v := .slice (some ⟨b, off, none⟩) l.length c) rfl (by kernel_rfl) (fun w0 hSw => ?_) ?_
            · have y0 := (hSw.cell (p := ⟨w.heap.size, 0, none⟩) hlo).trans q0; have y1 := (hSw.cell (p := ⟨w.heap.size, 1, none⟩) hlo).trans q1
              go_simp
            simp only [Act.put, List.getElem_toArray, List.getElem_cons_succ, List.getElem_cons_zero, List.setIfInBounds_toArray, List.set_cons_zero, List.set_cons_succ]
            refine wpDet_take (v := ?_) rfl (by kernel_rfl) (fun w0 hSw => ?_) ?_
            rotate_left 1
            · have y0 := (hSw.cell (p := ⟨w.heap.size, 0, none⟩) hlo).trans q0; have y1 := (hSw.cell (p := ⟨w.heap.size, 1, none⟩) hlo).trans q1
              go_simp
              with_reducible rfl
            simp only [Act.put, List.getElem_toArray, List.getElem_cons_succ, List.getElem_cons_zero, List.setIfInBounds_toArray, List.set_cons_zero, List.set_cons_succ]
            refine wpDet_take (v := .pointer (some ⟨b, off + k * 6, none⟩)) rfl (by kernel_rfl) (fun w0 hSw => ?_) ?_
            · have y0 := (hSw.cell (p := ⟨w.heap.size, 0, none⟩) hlo).trans q0; have y1 := (hSw.cell (p := ⟨w.heap.size, 1, none⟩) hlo).trans q1
              go_simp
            simp only [Act.put, List.getElem_toArray, List.getElem_cons_succ, List.getElem_cons_zero, List.setIfInBounds_toArray, List.set_cons_zero, List.set_cons_succ]
            refine wpDet_take (v := .pointer (some ⟨b, off + k * 6 + 4, none⟩)) rfl (by kernel_rfl) (fun w0 hSw => ?_) ?_
            · have y0 := (hSw.cell (p := ⟨w.heap.size, 0, none⟩) hlo).trans q0; have y1 := (hSw.cell (p := ⟨w.heap.size, 1, none⟩) hlo).trans q1
              go_simp
            simp only [Act.put, List.getElem_toArray, List.getElem_cons_succ, List.getElem_cons_zero, List.setIfInBounds_toArray, List.set_cons_zero, List.set_cons_succ]
            refine wpDet_take (v := .slice a3 rl.length c3) rfl (by kernel_rfl) (fun w0 hSw => ?_) ?_
            · have y0 := (hSw.cell (p := ⟨w.heap.size, 0, none⟩) hlo).trans q0; have y1 := (hSw.cell (p := ⟨w.heap.size, 1, none⟩) hlo).trans q1; have z0 := (hSw.cell (p := ⟨b, off + k * 6, none⟩) hbw).trans d0; have z1 := (hSw.cell (p := ⟨b, off + k * 6 + 1, none⟩) hbw).trans d1; have z2 := (hSw.cell (p := ⟨b, off + k * 6 + 2, none⟩) hbw).trans d2; have z3 := (hSw.cell (p := ⟨b, off + k * 6 + 3, none⟩) hbw).trans d3; have z4 := (hSw.cell (p := ⟨b, off + k * 6 + 4, none⟩) hbw).trans d4; have z5 := (hSw.cell (p := ⟨b, off + k * 6 + 5, none⟩) hbw).trans d5
              go_simp
            simp only [Act.put, List.getElem_toArray, List.getElem_cons_succ, List.getElem_cons_zero, List.setIfInBounds_toArray, List.set_cons_zero, List.set_cons_succ]
            refine wpDet_take (v := ?_) rfl (by kernel_rfl) (fun w0 hSw => ?_) ?_
            rotate_left 1
            · have y0 := (hSw.cell (p := ⟨w.heap.size, 0, none⟩) hlo).trans q0; have y1 := (hSw.cell (p := ⟨w.heap.size, 1, none⟩) hlo).trans q1
              go_simp
              with_reducible rfl
            simp only [Act.put, List.getElem_toArray, List.getElem_cons_succ, List.getElem_cons_zero, List.setIfInBounds_toArray, List.set_cons_zero, List.set_cons_succ]
            refine wpDet_take (v := .slice (some ⟨b, off, none⟩) l.length c) rfl (by kernel_rfl) (fun w0 hSw => ?_) ?_
            · have y0 := (hSw.cell (p := ⟨w.heap.size, 0, none⟩) hlo).trans q0; have y1 := (hSw.cell (p := ⟨w.heap.size, 1, none⟩) hlo).trans q1
              go_simp
            simp only [Act.put, List.getElem_toArray, List.getElem_cons_succ, List.getElem_cons_zero, List.setIfInBounds_toArray, List.set_cons_zero, List.set_cons_succ]
            refine wpDet_take (v := ?_) rfl (by kernel_rfl) (fun w0 hSw => ?_) ?_
            rotate_left 1
            · have y0 := (hSw.cell (p := ⟨w.heap.size, 0, none⟩) hlo).trans q0; have y1 := (hSw.cell (p := ⟨w.heap.size, 1, none⟩) hlo).trans q1
              go_simp
              with_reducible rfl
            simp only [Act.put, List.getElem_toArray, List.getElem_cons_succ, List.getElem_cons_zero, List.setIfInBounds_toArray, List.set_cons_zero, List.set_cons_succ]
            refine wpDet_take (v := .pointer (some ⟨b, off + k * 6, none⟩)) rfl (by kernel_rfl) (fun w0 hSw => ?_) ?_
            · have y0 := (hSw.cell (p := ⟨w.heap.size, 0, none⟩) hlo).trans q0; have y1 := (hSw.cell (p := ⟨w.heap.size, 1, none⟩) hlo).trans q1
              go_simp
            simp only [Act.put, List.getElem_toArray, List.getElem_cons_succ, List.getElem_cons_zero, List.setIfInBounds_toArray, List.set_cons_zero, List.set_cons_succ]
            refine wpDet_take (v := .pointer (some ⟨b, off + k * 6 + 5, none⟩)) rfl (by kernel_rfl) (fun w0 hSw => ?_) ?_
            · have y0 := (hSw.cell (p := ⟨w.heap.size, 0, none⟩) hlo).trans q0; have y1 := (hSw.cell (p := ⟨w.heap.size, 1, none⟩) hlo).trans q1
              go_simp
            simp only [Act.put, List.getElem_toArray, List.getElem_cons_succ, List.getElem_cons_zero, List.setIfInBounds_toArray, List.set_cons_zero, List.set_cons_succ]
            refine wpDet_take (v := .slice a4 pl.length c4) rfl (by kernel_rfl) (fun w0 hSw => ?_) ?_
            · have y0 := (hSw.cell (p := ⟨w.heap.size, 0, none⟩) hlo).trans q0; have y1 := (hSw.cell (p := ⟨w.heap.size, 1, none⟩) hlo).trans q1; have z0 := (hSw.cell (p := ⟨b, off + k * 6, none⟩) hbw).trans d0; have z1 := (hSw.cell (p := ⟨b, off + k * 6 + 1, none⟩) hbw).trans d1; have z2 := (hSw.cell (p := ⟨b, off + k * 6 + 2, none⟩) hbw).trans d2; have z3 := (hSw.cell (p := ⟨b, off + k * 6 + 3, none⟩) hbw).trans d3; have z4 := (hSw.cell (p := ⟨b, off + k * 6 + 4, none⟩) hbw).trans d4; have z5 := (hSw.cell (p := ⟨b, off + k * 6 + 5, none⟩) hbw).trans d5
              go_simp
            simp only [Act.put, List.getElem_toArray, List.getElem_cons_succ, List.getElem_cons_zero, List.setIfInBounds_toArray, List.set_cons_zero, List.set_cons_succ]
            refine wpDet_call (v := .int .i64 0) rfl (by kernel_rfl) (fun w0 hSw K hK => ?_) ?_
            · go_simp
              go_at_call 56
              refine (HR.out _ (HBw.out.trans (hSw.mono HBw.out.size))).mono ?_
              rintro e w9 ⟨rfl, hb⟩
              exact hK _ (hSw.trans (hb.mono hSw.size))
            simp only [Act.put, List.getElem_toArray, List.getElem_cons_succ, List.getElem_cons_zero, List.setIfInBounds_toArray, List.set_cons_zero, List.set_cons_succ]
            refine wpDet_done (fun V hV => ?_)
            go_wp2
            go_roundg (gk - 1)
            case measure => omega
            case rel => exact ⟨k + 1, by first | rfl | go_num, by omega, HBw.out.trans (hV.mono HBw.out.size), hr0.below hV hlo, fun q hq => by
              by_cases hqk : q = k
              · subst hqk; rw [HX.out]; exact HC.out
              · exact HA.out q (by omega)⟩
          · have hcc := hca hc
            have HCC := Lib.hid hcc
            have z1 : (C != 0) = true := bne_iff_ne.2 hc
            clear hca hcc hc
            refine wp_region_det 13 (fun w0 => Below wr.heap.size wr w0) (by kernel_rfl) (by kernel_rfl) (Below.refl _ _).drew ?_
            refine wpDet_take (v := ?_) rfl (by kernel_rfl) (fun w0 hSw => ?_) ?_
            rotate_left 1
            · have y0 := (hSw.cell (p := ⟨w.heap.size, 0, none⟩) hlo).trans q0; have y1 := (hSw.cell (p := ⟨w.heap.size, 1, none⟩) hlo).trans q1
              go_simp
              with_reducible rfl
            simp only [Act.put, List.getElem_toArray, List.getElem_cons_succ, List.getElem_cons_zero, List.setIfInBounds_toArray, List.set_cons_zero, List.set_cons_succ]
            refine wpDet_take (v := .slice (some ⟨b, off, none⟩) l.length c) rfl (by kernel_rfl) (fun w0 hSw => ?_) ?_
            · have y0 := (hSw.cell (p := ⟨w.heap.size, 0, none⟩) hlo).trans q0; have y1 := (hSw.cell (p := ⟨w.heap.size, 1, none⟩) hlo).trans q1
              go_simp
            simp only [Act.put, List.getElem_toArray, List.getElem_cons_succ, List.getElem_cons_zero, List.setIfInBounds_toArray, List.set_cons_zero, List.set_cons_succ]
            refine wpDet_take (v := ?_) rfl (by kernel_rfl) (fun w0 hSw => ?_) ?_
            rotate_left 1
            · have y0 := (hSw.cell (p := ⟨w.heap.size, 0, none⟩) hlo).trans q0; have y1 := (hSw.cell (p := ⟨w.heap.size, 1, none⟩) hlo).trans q1
              go_simp
              with_reducible rfl
            simp only [Act.put, List.getElem_toArray, List.getElem_cons_succ, List.getElem_cons_zero, List.setIfInBounds_toArray, List.set_cons_zero, List.set_cons_succ]
            refine wpDet_take (v := .pointer (some ⟨b, off + k * 6, none⟩)) rfl (by kernel_rfl) (fun w0 hSw => ?_) ?_
            · have y0 := (hSw.cell (p := ⟨w.heap.size, 0, none⟩) hlo).trans q0; have y1 := (hSw.cell (p := ⟨w.heap.size, 1, none⟩) hlo).trans q1
              go_simp
            simp only [Act.put, List.getElem_toArray, List.getElem_cons_succ, List.getElem_cons_zero, List.setIfInBounds_toArray, List.set_cons_zero, List.set_cons_succ]
            refine wpDet_take (v := .pointer (some ⟨b, off + k * 6 + 4, none⟩)) rfl (by kernel_rfl) (fun w0 hSw => ?_) ?_
            · have y0 := (hSw.cell (p := ⟨w.heap.size, 0, none⟩) hlo).trans q0; have y1 := (hSw.cell (p := ⟨w.heap.size, 1, none⟩) hlo).trans q1
              go_simp
            simp only [Act.put, List.getElem_toArray, List.getElem_cons_succ, List.getElem_cons_zero, List.setIfInBounds_toArray, List.set_cons_zero, List.set_cons_succ]
            refine wpDet_take (v := .slice a3 rl.length c3) rfl (by kernel_rfl) (fun w0 hSw => ?_) ?_
            · have y0 := (hSw.cell (p := ⟨w.heap.size, 0, none⟩) hlo).trans q0; have y1 := (hSw.cell (p := ⟨w.heap.size, 1, none⟩) hlo).trans q1; have z0 := (hSw.cell (p := ⟨b, off + k * 6, none⟩) hbw).trans d0; have z1 := (hSw.cell (p := ⟨b, off + k * 6 + 1, none⟩) hbw).trans d1; have z2 := (hSw.cell (p := ⟨b, off + k * 6 + 2, none⟩) hbw).trans d2; have z3 := (hSw.cell (p := ⟨b, off + k * 6 + 3, none⟩) hbw).trans d3; have z4 := (hSw.cell (p := ⟨b, off + k * 6 + 4, none⟩) hbw).trans d4; have z5 := (hSw.cell (p := ⟨b, off + k * 6 + 5, none⟩) hbw).trans d5
              go_simp
            simp only [Act.put, List.getElem_toArray, List.getElem_cons_succ, List.getElem_cons_zero, List.setIfInBounds_toArray, List.set_cons_zero, List.set_cons_succ]
            refine wpDet_take (v := ?_) rfl (by kernel_rfl) (fun w0 hSw => ?_) ?_
            rotate_left 1
            · have y0 := (hSw.cell (p := ⟨w.heap.size, 0, none⟩) hlo).trans q0; have y1 := (hSw.cell (p := ⟨w.heap.size, 1, none⟩) hlo).trans q1
              go_simp
              with_reducible rfl
            simp only [Act.put, List.getElem_toArray, List.getElem_cons_succ, List.getElem_cons_zero, List.setIfInBounds_toArray, List.set_cons_zero, List.set_cons_succ]
            refine wpDet_take (v := .slice (some ⟨b, off, none⟩) l.length c) rfl (by kernel_rfl) (fun w0 hSw => ?_) ?_
            · have y0 := (hSw.cell (p := ⟨w.heap.size, 0, none⟩) hlo).trans q0; have y1 := (hSw.cell (p := ⟨w.heap.size, 1, none⟩) hlo).trans q1
              go_simp
            simp only [Act.put, List.getElem_toArray, List.getElem_cons_succ, List.getElem_cons_zero, List.setIfInBounds_toArray, List.set_cons_zero, List.set_cons_succ]
            refine wpDet_take (v := ?_) rfl (by kernel_rfl) (fun w0 hSw => ?_) ?_
            rotate_left 1
            · have y0 := (hSw.cell (p := ⟨w.heap.size, 0, none⟩) hlo).trans q0; have y1 := (hSw.cell (p := ⟨w.heap.size, 1, none⟩) hlo).trans q1
              go_simp
              with_reducible rfl
            simp only [Act.put, List.getElem_toArray, List.getElem_cons_succ, List.getElem_cons_zero, List.setIfInBounds_toArray, List.set_cons_zero, List.set_cons_succ]
            refine wpDet_take (v := .pointer (some ⟨b, off + k * 6, none⟩)) rfl (by kernel_rfl) (fun w0 hSw => ?_) ?_
            · have y0 := (hSw.cell (p := ⟨w.heap.size, 0, none⟩) hlo).trans q0; have y1 := (hSw.cell (p := ⟨w.heap.size, 1, none⟩) hlo).trans q1
              go_simp
            simp only [Act.put, List.getElem_toArray, List.getElem_cons_succ, List.getElem_cons_zero, List.setIfInBounds_toArray, List.set_cons_zero, List.set_cons_succ]
            refine wpDet_take (v := .pointer (some ⟨b, off + k * 6 + 5, none⟩)) rfl (by kernel_rfl) (fun w0 hSw => ?_) ?_
            · have y0 := (hSw.cell (p := ⟨w.heap.size, 0, none⟩) hlo).trans q0; have y1 := (hSw.cell (p := ⟨w.heap.size, 1, none⟩) hlo).trans q1
              go_simp
            simp only [Act.put, List.getElem_toArray, List.getElem_cons_succ, List.getElem_cons_zero, List.setIfInBounds_toArray, List.set_cons_zero, List.set_cons_succ]
            refine wpDet_take (v := .slice a4 pl.length c4) rfl (by kernel_rfl) (fun w0 hSw => ?_) ?_
            · have y0 := (hSw.cell (p := ⟨w.heap.size, 0, none⟩) hlo).trans q0; have y1 := (hSw.cell (p := ⟨w.heap.size, 1, none⟩) hlo).trans q1; have z0 := (hSw.cell (p := ⟨b, off + k * 6, none⟩) hbw).trans d0; have z1 := (hSw.cell (p := ⟨b, off + k * 6 + 1, none⟩) hbw).trans d1; have z2 := (hSw.cell (p := ⟨b, off + k * 6 + 2, none⟩) hbw).trans d2; have z3 := (hSw.cell (p := ⟨b, off + k * 6 + 3, none⟩) hbw).trans d3; have z4 := (hSw.cell (p := ⟨b, off + k * 6 + 4, none⟩) hbw).trans d4; have z5 := (hSw.cell (p := ⟨b, off + k * 6 + 5, none⟩) hbw).trans d5
              go_simp
            simp only [Act.put, List.getElem_toArray, List.getElem_cons_succ, List.getElem_cons_zero, List.setIfInBounds_toArray, List.set_cons_zero, List.set_cons_succ]
            refine wpDet_call (v := .int .i64 C) rfl (by kernel_rfl) (fun w0 hSw K hK => ?_) ?_
            · go_simp
              go_at_call 56
              refine (HR.out _ (HBw.out.trans (hSw.mono HBw.out.size))).mono ?_
              rintro e w9 ⟨rfl, hb⟩
              exact hK _ (hSw.trans (hb.mono hSw.size))
            simp only [Act.put, List.getElem_toArray, List.getElem_cons_succ, List.getElem_cons_zero, List.setIfInBounds_toArray, List.set_cons_zero, List.set_cons_succ]
            refine wpDet_done (fun V hV => ?_)
            go_wp2
            go_ret
            exact ⟨by rw [HY.out, HCC.out]; rfl, HBw.out.trans (hV.mono HBw.out.size)⟩
        · obtain rfl : k = l.length := by omega
          have hyes := calsE_0 HA.out
          have HY2 := Lib.hid hyes
          clear hyes
          go_wp2_with fail
          go_ret
          exact ⟨by rw [HY.out, HY2.out]; rfl, hBr⟩
set_option maxRecDepth 100000 in
set_option maxHeartbeats 4000000 in
theorem rtt_any (l : List Lx) (n : Int) (v : Value) (w : World) (h : SlX w w.heap.size v l) (hcap : capX l) :
    Calls Tryz.prog 20 #[ttV n v] w fun e w' => e = .returned (.int .i64 (ttE l n)) ∧ Below w.heap.size w w' := by
  unfold ttE
  by_cases hl : 64 < l.length
  · rw [if_pos hl]
    obtain ⟨⟨_, A, c, rfl, _⟩, _⟩ := h
    have f1 : decide (64 < (l.length : Int)) = true := decide_eq_true (by omega)
    have hB0 := below_alloc' w (.cells #[.int .i64 n, .slice A l.length c] 24)
    clear hl
    go_enter Tryz.func20, Tryz.ntmps20
    go_wp2_with fail
    go_ret
    exact ⟨rfl, hB0⟩
  · rw [if_neg hl]
    cases hb : btwB n 0 24 with
    | true =>
      rw [if_pos rfl]
      unfold btwB at hb
      simp only [Bool.and_eq_true, decide_eq_true_eq] at hb
      obtain ⟨N, rfl⟩ : ∃ N : Nat, n = (N : Int) := ⟨n.toNat, by omega⟩
      exact rtt_few l N (by omega) v w h hcap (by omega)
    | false =>
      rw [if_neg (by simp)]
      obtain ⟨⟨_, A, c, rfl, _⟩, _⟩ := h
      have f1 : decide (64 < (l.length : Int)) = false := decide_eq_false (by omega)
      have hB0 := below_alloc' w (.cells #[.int .i64 n, .slice A l.length c] 24)
      rcases btw_cases n 0 24 with ⟨q1, e⟩ | ⟨q0, q1, e⟩ | ⟨q0, q1, e⟩
      · have z1 := decide_eq_true q1
        clear hl hb e q1
        go_enter Tryz.func20, Tryz.ntmps20
        go_wp2
        go_ret
        exact ⟨rfl, hB0⟩
      · have z1 := decide_eq_false (show ¬ n < 0 by omega)
        have z2 := decide_eq_true q1
        clear hl hb e q1 q0
        go_enter Tryz.func20, Tryz.ntmps20
        go_wp2
        go_ret
        exact ⟨rfl, hB0⟩
      · rw [e] at hb; cases hb
end Go.Proofs.YthckledagggoiaaGreatDoor
