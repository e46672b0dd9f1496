import Derived.Test.YthckledagggoiaaGreatDoorAs6
import Derived.Deep.QuietTactic
import Derived.BigQuiet
set_option linter.unusedSimpArgs false
set_option linter.unusedVariables false
namespace Go.Proofs.YthckledagggoiaaGreatDoor
open Go.RowKit Go.MapKept Go.Shelf Fk
attribute [local go_sem] Oper.semAt_some
/-! The law's own functions: lives, Same, Few, living. -/
def livesE (no p o : Int) : En := ⟨no, 1, p, o, 0, 2097152, 0, 2097152⟩
theorem infoEn : (Tryz.prog.info? 49).map (·.size) = some 8 := by kernel_rfl
set_option maxHeartbeats 1000000 in
theorem lives_any (no p o : Int) (w : World) :
    Calls Tryz.prog 72 #[.int .i64 no, .int .i64 p, .int .i64 o] w fun e w' => e = .returned (livesE no p o).val ∧ Below w.heap.size w w' := by
  unfold livesE En.val
  go_enter Tryz.func72, Tryz.ntmps72
  go_wp2
  exact bodyPost_ret (results_cell_row rfl _ _ w.heap.size 49 _ (0, 0) _ rfl (Row.new w 49 [.int .i64 no, .int .i64 1, .int .i64 p, .int .i64 o, .int .i64 0, .int .i64 2097152, .int .i64 0, .int .i64 2097152]) Tryz.underlying49 rfl infoEn) rfl ⟨rfl, (Below.refl _ _).alloc (Nat.le_refl _) _⟩
theorem list_eqD {a b : List Int} (h : a.length = b.length) (hk : ∀ i, i < a.length → a.getD i default = b.getD i default) : a = b := by
  refine List.ext_getElem h fun i h1 h2 => ?_
  have := hk i h1
  rwa [List.getD_eq_getElem?_getD, List.getD_eq_getElem?_getD, List.getElem?_eq_getElem h1, List.getElem?_eq_getElem h2] at this
set_option maxRecDepth 100000 in
set_option maxHeartbeats 2000000 in
theorem same35_any (a b : List Int) (v v2 : Value) (w : World) (h : SlI w w.heap.size v a) (h2 : SlI w w.heap.size v2 b) (hla : a.length ≤ 2000) (hlb : b.length ≤ 2000) :
    Calls Tryz.prog 32 #[v, v2] w fun e w' => e = .returned (.bool (decide (a = b))) ∧ Below w.heap.size w w' := by
  have HS := Lib.hid h
  have HS2 := Lib.hid h2
  obtain ⟨_, A, c, rfl, _⟩ := h
  obtain ⟨_, A2, c2, rfl, _⟩ := h2
  by_cases hl : a.length = b.length
  · rw [← hl] at HS2 ⊢
    have HL := Lib.hid hl
    obtain ⟨R, hR⟩ : ∃ R, decide (a = b) = R := ⟨_, rfl⟩
    rw [hR]
    have HR := Lib.hid hR
    clear hl hlb hR
    have f0 : ((a.length : Int) != a.length) = false := by simp
    go_enter Tryz.func32, Tryz.ntmps32
    go_wp2
    go_loopg [5] a.length (fun g i wr => Below w.heap.size w wr ∧ ∃ k : Nat, i = .int .i64 k ∧ k + g = a.length ∧ ∀ i, i < k → a.getD i default = b.getD i default)
    case atStart => exact ⟨Below.refl _ _, 0, rfl, by omega, fun i hi => by omega⟩
    case round =>
      obtain ⟨hBr, k, rfl, hk, hall⟩ := hrel
      have HA := Lib.hid hall
      clear hall
      by_cases hlt : k < a.length
      · obtain ⟨_, A', c', hv, hE⟩ := HS.out.below hBr
        obtain ⟨bb, off, rfl, hb, hE⟩ := hE (by omega)
        cases hv
        obtain ⟨_, A3, c3, hv, hE2⟩ := HS2.out.below hBr
        obtain ⟨b2, off2, rfl, hb2, hE2⟩ := hE2 (by have := HL.out; omega)
        injection hv with hv3 hv4 hv5
        subst hv3
        have d1 := hE.int hlt
        have d2 := hE2.int (i := k) (by have := HL.out; omega)
        obtain ⟨m, hm⟩ : ∃ m, a.getD k default = m := ⟨_, rfl⟩
        obtain ⟨m2, hm2⟩ : ∃ m, b.getD k default = m := ⟨_, rfl⟩
        rw [hm] at d1
        rw [hm2] at d2
        have HM := Lib.hid hm
        have HM2 := Lib.hid hm2
        have s2 : (0 : Int) ≤ (k : Int) := by omega
        have s3 : ((k : Int)).toNat = k := by omega
        have s4 : (k : Int) < a.length := by omega
        clear hE hE2 hm hm2 hv4 hv5
        by_cases hmm : m = m2
        · have s0 : (m != m2) = false := by rw [hmm]; simp
          have HMM := Lib.hid hmm
          clear hmm
          go_wp2
          go_quiet (fail)
          clear s2 s3 s4
          go_wp2
          go_roundg (gk - 1)
          case measure => omega
          case rel => exact ⟨by first | exact hBr | exact below_drewN hBr _, k + 1, by go_num, by omega, fun i hi => by
            by_cases hik : i = k
            · subst hik; rw [HM.out, HM2.out]; exact HMM.out
            · exact HA.out i (by omega)⟩
        · have s0 : (m != m2) = true := bne_iff_ne.2 hmm
          have hR : R = false := by
            rw [← HR.out, decide_eq_false_iff_not]
            rintro rfl
            exact hmm (HM.out.symm.trans HM2.out)
          have HRR := Lib.hid hR
          clear hmm hR
          go_wp2
          go_quiet (fail)
          clear s2 s3 s4
          go_wp2
          rw [HRR.out]
          go_ret
          exact ⟨rfl, by first | exact hBr | exact below_drewN hBr _⟩
      · obtain rfl : k = a.length := by omega
        have hR : R = true := by
          rw [← HR.out, decide_eq_true_eq]
          exact list_eqD HL.out HA.out
        have HRR := Lib.hid hR
        clear hR
        go_wp2
        rw [HRR.out]
        go_ret
        exact ⟨rfl, hBr⟩
  · have hne : decide (a = b) = false := decide_eq_false (fun e => hl (by rw [e]))
    rw [hne]
    have f0 : ((a.length : Int) != b.length) = true := bne_iff_ne.2 (by omega)
    clear hne hl
    go_enter Tryz.func32, Tryz.ntmps32
    go_wp2
    go_ret
    exact ⟨rfl, Below.refl _ _⟩
def fewB (q : Nat) (n : Int) : Bool := (decide (q ≤ 30) || (decide (1024 < q) && decide (q ≤ 1100))) && (decide (n ≤ 12) || decide (1024 < n))
theorem few_cases (q : Nat) (n : Int) : fewB q n = ((decide ((q : Int) ≤ 30) || (decide (1024 < (q : Int)) && decide ((q : Int) ≤ 1100))) && (decide (n ≤ 12) || decide (1024 < n))) := by
  unfold fewB
  rw [show decide ((q : Int) ≤ 30) = decide (q ≤ 30) from by rw [decide_eq_decide]; omega, show decide (1024 < (q : Int)) = decide (1024 < q) from by rw [decide_eq_decide]; omega, show decide ((q : Int) ≤ 1100) = decide (q ≤ 1100) from by rw [decide_eq_decide]; omega]
set_option maxRecDepth 100000 in
set_option maxHeartbeats 2000000 in
theorem few35_any (A : Option Addr) (q c : Nat) (n : Int) (w : World) :
    Calls Tryz.prog 27 #[.slice A q c, .int .i64 n] w fun e w' => e = .returned (.bool (fewB q n)) ∧ w = w' := by
  rw [few_cases]
  obtain ⟨b1, h1⟩ : ∃ b, decide ((q : Int) ≤ 30) = b := ⟨_, rfl⟩
  obtain ⟨b2, h2⟩ : ∃ b, decide (1024 < (q : Int)) = b := ⟨_, rfl⟩
  obtain ⟨b3, h3⟩ : ∃ b, decide ((q : Int) ≤ 1100) = b := ⟨_, rfl⟩
  obtain ⟨b4, h4⟩ : ∃ b, decide (n ≤ 12) = b := ⟨_, rfl⟩
  obtain ⟨b5, h5⟩ : ∃ b, decide (1024 < n) = b := ⟨_, rfl⟩
  rw [h1, h2, h3, h4, h5]
  cases b1 <;> cases b2 <;> cases b3 <;> cases b4 <;> cases b5
  all_goals
    go_enter Tryz.func27, Tryz.ntmps27
    go_wp2
    go_ret
    exact ⟨rfl, rfl⟩
theorem cell_one_at (w : World) (o : Obj) (x : Value) (t : TypeId) : ∀ j u, [x][j]? = some u → ((w.alloc o).alloc (.cells #[x] t)).cell? ((⟨w.heap.size + 1, 0, none⟩ : Addr).add j) = some u := by
  intro j u hj
  match j, hj with
  | 0, hj =>
    simp at hj; subst hj
    have := (rowAt (w := w.alloc o) (n := w.heap.size + 1) (by simp) t [x]).cell 0
    simp [Addr.add]
  | (j + 1), hj => simp at hj
theorem livK_snocI (l : List En) (office day time : Int) (k : Nat) (h : livB l office day time (k : Int) = true) : (livK l office day time (k + 1)).flatMap Fk.encI = (livK l office day time k).flatMap Fk.encI ++ [.int .i64 (k : Int)] := by
  rw [livK_succ, if_pos h, List.flatMap_append]; rfl
theorem infoI : (Tryz.prog.info? 3).map (fun i => (i.zero, i.size, i.bytes)) = some (some (.int .i64 0), 1, 8) := by kernel_rfl
end Go.Proofs.YthckledagggoiaaGreatDoor
