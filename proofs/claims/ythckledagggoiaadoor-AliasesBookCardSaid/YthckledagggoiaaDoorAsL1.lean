import Derived.Test.YthckledagggoiaaDoorAs6
import Derived.Deep.QuietTactic
import Derived.BigQuiet
set_option linter.unusedSimpArgs false
set_option linter.unusedVariables false
namespace Go.Proofs.YthckledagggoiaaDoor
open Go.RowKit Go.MapKept Go.Shelf Fk
attribute [local go_sem] Oper.semAt_some
/-! The law's own functions: lives, Same, Few, living. -/
def livesE (no p o : Int) : En := ⟨no, 1, p, o, 0, 2097152, 0, 2097152⟩
theorem infoEn : (Tryd.prog.info? 53).map (·.size) = some 8 := by kernel_rfl
set_option maxHeartbeats 1000000 in
theorem lives_any (no p o : Int) (w : World) :
    Calls Tryd.prog 19 #[.int .i64 no, .int .i64 p, .int .i64 o] w fun e w' => e = .returned (livesE no p o).val ∧ Below w.heap.size w w' := by
  unfold livesE En.val
  go_enter Tryd.func19, Tryd.ntmps19
  go_wp2
  exact bodyPost_ret (results_cell_row rfl _ _ w.heap.size 53 _ (0, 0) _ rfl (Row.new w 53 [.int .i64 no, .int .i64 1, .int .i64 p, .int .i64 o, .int .i64 0, .int .i64 2097152, .int .i64 0, .int .i64 2097152]) Tryd.underlying53 rfl infoEn) rfl ⟨rfl, (Below.refl _ _).alloc (Nat.le_refl _) _⟩
theorem list_eqD {a b : List Int} (h : a.length = b.length) (hk : ∀ i, i < a.length → a.getD i default = b.getD i default) : a = b := by
  refine List.ext_getElem h fun i h1 h2 => ?_
  have := hk i h1
  rwa [List.getD_eq_getElem?_getD, List.getD_eq_getElem?_getD, List.getElem?_eq_getElem h1, List.getElem?_eq_getElem h2] at this
set_option maxRecDepth 100000 in
set_option maxHeartbeats 2000000 in
theorem same35_any (a b : List Int) (v v2 : Value) (w : World) (h : SlI w w.heap.size v a) (h2 : SlI w w.heap.size v2 b) (hla : a.length ≤ 2000) (hlb : b.length ≤ 2000) :
    Calls Tryd.prog 17 #[v, v2] w fun e w' => e = .returned (.bool (decide (a = b))) ∧ Below w.heap.size w w' := by
  have HS := Lib.hid h
  have HS2 := Lib.hid h2
  obtain ⟨_, A, c, rfl, _⟩ := h
  obtain ⟨_, A2, c2, rfl, _⟩ := h2
  by_cases hl : a.length = b.length
  · rw [← hl] at HS2 ⊢
    have HL := Lib.hid hl
    obtain ⟨R, hR⟩ : ∃ R, decide (a = b) = R := ⟨_, rfl⟩
    rw [hR]
    have HR := Lib.hid hR
    clear hl hlb hR
    have f0 : ((a.length : Int) != a.length) = false := by simp
    go_enter Tryd.func17, Tryd.ntmps17
    go_wp2
    go_loopg [5] a.length (fun g i wr => Below w.heap.size w wr ∧ ∃ k : Nat, i = .int .i64 k ∧ k + g = a.length ∧ ∀ i, i < k → a.getD i default = b.getD i default)
    case atStart => exact ⟨Below.refl _ _, 0, rfl, by omega, fun i hi => by omega⟩
    case round =>
      obtain ⟨hBr, k, rfl, hk, hall⟩ := hrel
      have HA := Lib.hid hall
      clear hall
      by_cases hlt : k < a.length
      · obtain ⟨_, A', c', hv, hE⟩ := HS.out.below hBr
        obtain ⟨bb, off, rfl, hb, hE⟩ := hE (by omega)
        cases hv
        obtain ⟨_, A3, c3, hv, hE2⟩ := HS2.out.below hBr
        obtain ⟨b2, off2, rfl, hb2, hE2⟩ := hE2 (by have := HL.out; omega)
        injection hv with hv3 hv4 hv5
        subst hv3
        have d1 := hE.int hlt
        have d2 := hE2.int (i := k) (by have := HL.out; omega)
        obtain ⟨m, hm⟩ : ∃ m, a.getD k default = m := ⟨_, rfl⟩
        obtain ⟨m2, hm2⟩ : ∃ m, b.getD k default = m := ⟨_, rfl⟩
        rw [hm] at d1
        rw [hm2] at d2
        have HM := Lib.hid hm
        have HM2 := Lib.hid hm2
        have s2 : (0 : Int) ≤ (k : Int) := by omega
        have s3 : ((k : Int)).toNat = k := by omega
        have s4 : (k : Int) < a.length := by omega
        clear hE hE2 hm hm2 hv4 hv5
        by_cases hmm : m = m2
        · have s0 : (m != m2) = false := by rw [hmm]; simp
          have HMM := Lib.hid hmm
          clear hmm
          go_wp2
          go_quiet (fail)
          clear s2 s3 s4
          go_wp2
          go_roundg (gk - 1)
          case measure => omega
          case rel => exact ⟨by first | exact hBr | exact below_drewN hBr _, k + 1, by go_num, by omega, fun i hi => by
            by_cases hik : i = k
            · subst hik; rw [HM.out, HM2.out]; exact HMM.out
            · exact HA.out i (by omega)⟩
        · have s0 : (m != m2) = true := bne_iff_ne.2 hmm
          have hR : R = false := by
            rw [← HR.out, decide_eq_false_iff_not]
            rintro rfl
            exact hmm (HM.out.symm.trans HM2.out)
          have HRR := Lib.hid hR
          clear hmm hR
          go_wp2
          go_quiet (fail)
          clear s2 s3 s4
          go_wp2
          rw [HRR.out]
          go_ret
          exact ⟨rfl, by first | exact hBr | exact below_drewN hBr _⟩
      · obtain rfl : k = a.length := by omega
        have hR : R = true := by
          rw [← HR.out, decide_eq_true_eq]
          exact list_eqD HL.out HA.out
        have HRR := Lib.hid hR
        clear hR
        go_wp2
        rw [HRR.out]
        go_ret
        exact ⟨rfl, hBr⟩
  · have hne : decide (a = b) = false := decide_eq_false (fun e => hl (by rw [e]))
    rw [hne]
    have f0 : ((a.length : Int) != b.length) = true := bne_iff_ne.2 (by omega)
    clear hne hl
    go_enter Tryd.func17, Tryd.ntmps17
    go_wp2
    go_ret
    exact ⟨rfl, Below.refl _ _⟩
def fewB (q : Nat) (n : Int) : Bool := (decide (q ≤ 30) || (decide (1024 < q) && decide (q ≤ 1100))) && (decide (n ≤ 12) || decide (1024 < n))
theorem few_cases (q : Nat) (n : Int) : fewB q n = ((decide ((q : Int) ≤ 30) || (decide (1024 < (q : Int)) && decide ((q : Int) ≤ 1100))) && (decide (n ≤ 12) || decide (1024 < n))) := by
  unfold fewB
  rw [show decide ((q : Int) ≤ 30) = decide (q ≤ 30) from by rw [decide_eq_decide]; omega, show decide (1024 < (q : Int)) = decide (1024 < q) from by rw [decide_eq_decide]; omega, show decide ((q : Int) ≤ 1100) = decide (q ≤ 1100) from by rw [decide_eq_decide]; omega]
set_option maxRecDepth 100000 in
set_option maxHeartbeats 2000000 in
theorem few35_any (A : Option Addr) (q c : Nat) (n : Int) (w : World) :
    Calls Tryd.prog 13 #[.slice A q c, .int .i64 n] w fun e w' => e = .returned (.bool (fewB q n)) ∧ w = w' := by
  rw [few_cases]
  obtain ⟨b1, h1⟩ : ∃ b, decide ((q : Int) ≤ 30) = b := ⟨_, rfl⟩
  obtain ⟨b2, h2⟩ : ∃ b, decide (1024 < (q : Int)) = b := ⟨_, rfl⟩
  obtain ⟨b3, h3⟩ : ∃ b, decide ((q : Int) ≤ 1100) = b := ⟨_, rfl⟩
  obtain ⟨b4, h4⟩ : ∃ b, decide (n ≤ 12) = b := ⟨_, rfl⟩
  obtain ⟨b5, h5⟩ : ∃ b, decide (1024 < n) = b := ⟨_, rfl⟩
  rw [h1, h2, h3, h4, h5]
  cases b1 <;> cases b2 <;> cases b3 <;> cases b4 <;> cases b5
  all_goals
    go_enter Tryd.func13, Tryd.ntmps13
    go_wp2
    go_ret
    exact ⟨rfl, rfl⟩
theorem cell_one_at (w : World) (o : Obj) (x : Value) (t : TypeId) : ∀ j u, [x][j]? = some u → ((w.alloc o).alloc (.cells #[x] t)).cell? ((⟨w.heap.size + 1, 0, none⟩ : Addr).add j) = some u := by
  intro j u hj
  match j, hj with
  | 0, hj =>
    simp at hj; subst hj
    have := (rowAt (w := w.alloc o) (n := w.heap.size + 1) (by simp) t [x]).cell 0
    simp [Addr.add]
  | (j + 1), hj => simp at hj
theorem livK_snocI (l : List En) (office day time : Int) (k : Nat) (h : livB l office day time (k : Int) = true) : (livK l office day time (k + 1)).flatMap Fk.encI = (livK l office day time k).flatMap Fk.encI ++ [.int .i64 (k : Int)] := by
  rw [livK_succ, if_pos h, List.flatMap_append]; rfl
theorem infoI : (Tryd.prog.info? 3).map (fun i => (i.zero, i.size, i.bytes)) = some (some (.int .i64 0), 1, 8) := by kernel_rfl
set_option maxRecDepth 100000 in
set_option maxHeartbeats 4000000 in
theorem lawliving_any (l : List En) (v : Value) (n : Nat) (office day time : Int) (w : World) (hn : n ≤ 1024) (h : SlE w w.heap.size v l) (hs : stE l day time = 0) :
    Calls Tryd.prog 15 #[v, .int .i64 n, .int .i64 office, .int .i64 day, .int .i64 time] w fun e w' => ∃ x, e = .returned (.tuple #[x, .bool true]) ∧ SlI w' w'.heap.size x (livK l office day time n) ∧ Below w.heap.size w w' := by
  obtain ⟨i0, hi, hz0, hz1, hz2⟩ := info_parts infoI
  have hwh := fun (k : Nat) (hk : k < n) (W : World) (hb : Below w.heap.size w W) => by
    have hh := where_any l v k day time W ((h.below hb).mono hb.size)
    rw [openE_0 hs (by unfold idB; simp only [Bool.and_eq_true, decide_eq_true_eq]; omega)] at hh
    exact hh
  have HWH := Lib.hid hwh
  clear hwh h hs
  go_enter Tryd.func15, Tryd.ntmps15
  go_wp2
  go_loopg [10, 12] n (fun g xv iv wr => ∃ k : Nat, iv = .int .i64 k ∧ k + g = n ∧ Below w.heap.size w wr ∧ wr.ownsRow w.heap.size 3 1 xv (livK l office day time k).length ((livK l office day time k).flatMap Fk.encI))
  case atStart => exact ⟨0, rfl, by omega, Below.refl _ _, World.ownsRow_nil _ _ _ _⟩
  case round =>
    obtain ⟨k, rfl, hkg, hBr, hown⟩ := hrel
    by_cases hlt : k < n
    · have hw := HWH.out k hlt wr hBr
      have t1 : decide ((k : Int) < n) = true := decide_eq_true (by omega)
      have t2 : ((0 : Int) != 0) = false := by decide
      obtain ⟨⟨a, b, c⟩, ht⟩ : ∃ t, whereH l k day time = t := ⟨_, rfl⟩
      rw [ht] at hw
      have hlb : livB l office day time k = decide (a = 1 ∧ b = k ∧ c = office) := by unfold livB; rw [ht]; simp only [Prod.mk.injEq]
      have hsn := livK_succ l office day time k
      have hsI := livK_snocI l office day time k
      have hln := livK_len l office day time k
      rw [hlb] at hsn hsI
      have HSN := Lib.hid hsn
      have HSI := Lib.hid hsI
      have HLN := Lib.hid (show (livK l office day time k).length ≤ 1024 by omega)
      have HW := Lib.hid hw
      have HO := Lib.hid hown
      have hsz := hBr.size
      clear hw ht hlb hsn hsI hown hln
      by_cases hh : a = 1 ∧ b = k ∧ c = office
      · have hy1 := HSN.out
        rw [if_pos (by simpa using hh)] at hy1
        have hy2 := HSI.out (by simpa using hh)
        have HY1 := Lib.hid hy1
        have HY2 := Lib.hid hy2
        obtain ⟨rfl, rfl, rfl⟩ := hh
        clear hy1 hy2
        go_wp2_with (first | (go_at_call 30; (with_reducible refine HW.out.mono ?_); rintro e w2 ⟨rfl, hb⟩) | (at_builtin; go_loud (refine wpList_append_own _ rfl _ _ 38 rfl w.heap.size 3 i0 (.int .i64 0) 1 8 Tryd.underlying38 hi hz0 hz1 hz2 rfl (by decide) _ _ _ rfl ((HO.out.kept (grown_below' ((hb.alloc hb.size (.cells #[.int .i64 1, .int .i64 k, .int .i64 c] 78))) (some wr.heap.size)) (.inr (fun e => by have := (HO.out.lt _ e).2; omega))).alloc _) ⟨w2.heap.size + 1, 0, none⟩ 1 1 [.int .i64 k] rfl rfl (cell_one_at w2 _ _ _) (by simp [Value.oneCell']) (by unfold maxLen; have := HLN.out; omega) (by have := HLN.out; omega) (by have := hb.size; simp; omega) ?_; intro v' w3 hown' hgrow _)))
        go_roundg (gk - 1)
        case measure => omega
        case rel =>
          refine ⟨k + 1, by first | rfl | go_num, by omega, ?_, ?_⟩
          · have hBx := (hBr.trans (hb.mono hBr.size)).alloc (by have := hb.size; omega) (.cells #[.int .i64 1, .int .i64 k, .int .i64 c] 78)
            have hBy := hBx.alloc hBx.size (.cells #[.int .i64 (k : Int)] 3)
            exact hBy.grown hgrow hBy.size (fun r e => (HO.out.lt r e).1)
          · rw [HY1.out, List.length_append, HY1.out.symm, HY2.out]
            exact hown'
      · have hy1 := HSN.out
        rw [if_neg (by simpa using hh)] at hy1
        have HY1 := Lib.hid hy1
        clear hy1
        have fin : ∀ w2, Below wr.heap.size wr w2 → Below w.heap.size w (w2.alloc (.cells #[.int .i64 a, .int .i64 b, .int .i64 c] 78)) ∧ (w2.alloc (.cells #[.int .i64 a, .int .i64 b, .int .i64 c] 78)).ownsRow w.heap.size 3 1 u10 (livK l office day time (k + 1)).length ((livK l office day time (k + 1)).flatMap Fk.encI) := fun w2 hb => by
          have hb2 := hb.alloc hb.size (.cells #[.int .i64 a, .int .i64 b, .int .i64 c] 78)
          refine ⟨hBr.trans (hb2.mono hBr.size), ?_⟩
          rw [HY1.out]
          exact HO.out.kept (grown_below' hb2 (some wr.heap.size)) (.inr (fun e => by have := (HO.out.lt _ e).2; omega))
        have FIN := Lib.hid fin
        clear fin
        by_cases h1 : a = 1
        · by_cases h2 : b = k
          · have h3 : ¬ c = office := fun h => hh ⟨h1, h2, h⟩
            subst h1 h2
            clear hh
            go_wp2_with (first | (go_at_call 30; (with_reducible refine HW.out.mono ?_); rintro e w2 ⟨rfl, hb⟩))
            go_roundg (gk - 1)
            case measure => omega
            case rel => exact ⟨k + 1, by first | rfl | go_num, by omega, (FIN.out w2 hb).1, (FIN.out w2 hb).2⟩
          · subst h1
            clear hh
            go_wp2_with (first | (go_at_call 30; (with_reducible refine HW.out.mono ?_); rintro e w2 ⟨rfl, hb⟩))
            go_roundg (gk - 1)
            case measure => omega
            case rel => exact ⟨k + 1, by first | rfl | go_num, by omega, (FIN.out w2 hb).1, (FIN.out w2 hb).2⟩
        · clear hh
          go_wp2_with (first | (go_at_call 30; (with_reducible refine HW.out.mono ?_); rintro e w2 ⟨rfl, hb⟩))
          go_roundg (gk - 1)
          case measure => omega
          case rel => exact ⟨k + 1, by first | rfl | go_num, by omega, (FIN.out w2 hb).1, (FIN.out w2 hb).2⟩
    · obtain rfl : k = n := by omega
      have hln := livK_len l office day time k
      have hsl : SlI wr wr.heap.size u10 (livK l office day time k) := own_slG hown (fun _ => rfl) rfl (by omega)
      have HSL := Lib.hid hsl
      clear hown hsl hln
      go_wp2
      go_ret2
      exact ⟨_, rfl, HSL.out, hBr⟩
end Go.Proofs.YthckledagggoiaaDoor
