import Derived.Test.YtlbnbginippjfaaRecP
import Derived.Test.YtlbnbginippjfaaDeal
namespace Go.Proofs.Ytlbnbginippjfaa
open Go.RowKit Fk

theorem sq_smallQ {x : Nat} (h : x < 1073741789) : 0 ≤ (x : Int) * x ∧ (x : Int) * x ≤ 1073741789 * 1073741789 := by
  have m2 : x * x ≤ 1073741789 * 1073741789 := Nat.mul_le_mul (by omega) (by omega)
  have m4 : (x : Int) * x = ((x * x : Nat) : Int) := by simp
  omega
theorem mul_smallQ {x y : Int} (h : 0 ≤ x ∧ x < 1073741789) (h' : 0 ≤ y ∧ y < 1073741789) : 0 ≤ x * y ∧ x * y ≤ 1073741789 * 1073741789 :=
  ⟨Int.mul_nonneg (by omega) (by omega), Int.mul_le_mul (by omega) (by omega) (by omega) (by omega)⟩

set_option maxHeartbeats 400000 in
theorem epower_nat (a n : Nat) (ha : a < 1073741789) (hn : n < 2147483579) (w : World) :
    Calls Try.prog 66 #[.int .i64 a, .int .i64 n] w fun e w' => e = .returned (.int .i64 ((a ^ n % 1073741789 : Nat) : Int)) ∧ w = w' := by
  go_enter Try.func66, Try.ntmps66
  go_wp2
  go_loopg [0, 1, 5] n (fun k x m c wr => w = wr ∧ ∃ (x' c' : Nat), x = .int .i64 x' ∧ m = .int .i64 k ∧ c = .int .i64 c' ∧ k < 2147483579 ∧ x' < 1073741789 ∧ c' < 1073741789 ∧ PQ a n c' x' k)
  case atStart => exact ⟨rfl, a, 1, rfl, rfl, rfl, hn, ha, by omega, PQ.start a n⟩
  case round =>
    obtain ⟨rfl, x', c', rfl, rfl, rfl, b1, b2, b3, hI⟩ := hrel
    have m1 := mul_smallQ (x := (c' : Int)) (y := (x' : Int)) (by omega) (by omega)
    have m2 := sq_smallQ b2
    by_cases hk : 0 < gk
    · by_cases ho : gk % 2 = 1
      · have hI2 := PQ.odd hI ho
        have t1 : ((gk : Int) % 2 == 1) = true := by simp; omega
        clear hI ho
        go_wp2
        go_roundg (gk / 2)
        case measure => omega
        case rel => exact ⟨rfl, x' * x' % 1073741789, c' * x' % 1073741789, by go_num, by go_num, by go_num, by omega, Nat.mod_lt _ (by omega), Nat.mod_lt _ (by omega), hI2⟩
      · have hI2 := PQ.even hI ho
        have t1 : ((gk : Int) % 2 == 1) = false := by simp; omega
        clear hI ho
        go_wp2
        go_roundg (gk / 2)
        case measure => omega
        case rel => exact ⟨rfl, x' * x' % 1073741789, c', by go_num, by go_num, rfl, by omega, Nat.mod_lt _ (by omega), by omega, hI2⟩
    · obtain rfl : gk = 0 := by omega
      have hI2 := PQ.done hI b3
      clear hI
      go_wp2
      go_ret
      exact ⟨ret_int (by rw [hI2]), rfl⟩
theorem epower_any (a n : Int) (h1 : 0 ≤ a) (h2 : a < 1073741789) (h3 : 0 ≤ n) (h4 : n < 2147483579) (w : World) :
    Calls Try.prog 66 #[.int .i64 a, .int .i64 n] w fun e w' => e = .returned (.int .i64 (pwQ a n)) ∧ w = w' := by
  have := epower_nat a.toNat n.toNat (by omega) (by omega) w
  rw [Int.toNat_of_nonneg h1, Int.toNat_of_nonneg h3] at this
  exact this

def metL (l : List Sh) : List Value := (List.range 25).map fun j => .bool (metB l j)
theorem metL_get (l : List Sh) {j : Nat} (h : j < 25) : (metL l)[j]? = some (.bool (metB l j)) := by
  unfold metL; rw [List.getElem?_map, List.getElem?_range h]; rfl
theorem metL_set (l : List Sh) (s : Sh) {j : Nat} (h : s.a = (j : Int)) : (metL l).set j (.bool true) = metL (l ++ [s]) := by
  apply List.ext_getElem?
  intro i
  rw [List.getElem?_set]
  by_cases hi : i < 25
  · rw [metL_get _ hi, metL_get _ hi, metB_snoc, h]
    have hlen : (metL l).length = 25 := by simp [metL]
    by_cases hij : j = i
    · subst hij; rw [if_pos rfl, if_pos (by omega)]; simp
    · rw [if_neg hij]
      have : ((j : Int) == (i : Int)) = false := by simp; omega
      rw [this, Bool.or_false]
  · have e1 : (metL l)[i]? = none := by rw [List.getElem?_eq_none]; simp [metL]; omega
    have e2 : (metL (l ++ [s]))[i]? = none := by rw [List.getElem?_eq_none]; simp [metL]; omega
    have hlen : (metL l).length = 25 := by simp [metL]
    rw [e1, e2]
    by_cases hij : j = i
    · subst hij; rw [if_pos rfl, if_neg (by omega)]
    · rw [if_neg hij]

set_option maxRecDepth 100000 in
set_option maxHeartbeats 2000000 in
theorem recover_in (l : List Sh) (v : Value) (w : World) (B0 : Nat) (hB : B0 ≤ w.heap.size) (h : SlSh w B0 v l) (hpos : 0 < l.length) :
    Calls Try.prog 55 #[v] w fun e w' => e = .returned (.tuple #[.int .i64 (recV l), .int .i64 (recE l)]) ∧ Below w.heap.size w w' := by
  have HS := Lib.hid h
  obtain ⟨hlen, A, c, rfl, _⟩ := h
  have hne : ((l.length : Int) == 0) = false := by rw [beq_eq_false_iff_ne]; omega
  go_enter Try.func55, Try.ntmps55
  go_wp2
  obtain ⟨W0, hW0⟩ : ∃ W0, w.alloc (Obj.cells #[Value.bool false, Value.bool false, Value.bool false, Value.bool false, Value.bool false, Value.bool false, Value.bool false, Value.bool false, Value.bool false, Value.bool false, Value.bool false, Value.bool false, Value.bool false, Value.bool false, Value.bool false, Value.bool false, Value.bool false, Value.bool false, Value.bool false, Value.bool false, Value.bool false, Value.bool false, Value.bool false, Value.bool false, Value.bool false] 97) = W0 := ⟨_, rfl⟩
  have hM0 : Row W0 w.heap.size 97 (metL []) := by rw [← hW0]; exact Row.new w _ (metL [])
  have hB0 : Below w.heap.size w W0 := by rw [← hW0]; exact (Below.refl _ _).alloc (Nat.le_refl _) _
  rw [hW0]
  clear hW0
  go_loopg [2, 18] l.length (fun g s i wr => s = .int .i64 0 ∧ Below w.heap.size w wr ∧ ∃ k : Nat, i = .int .i64 k ∧ k + g = l.length ∧ (∀ j, j < k → shAt l j) ∧ Row wr w.heap.size 97 (metL (l.take k)))
  case atStart => exact ⟨rfl, hB0, 0, rfl, by omega, fun j hj => by omega, by simpa using hM0⟩
  case round =>
    obtain ⟨rfl, hBr, k, rfl, hk, hgood, hM⟩ := hrel
    by_cases hlt : k < l.length
    · have HS' := HS.out.below (hBr.mono hB)
      obtain ⟨_, A', c', hv, hE⟩ := HS'
      obtain ⟨b, off, rfl, hb, hE⟩ := hE hpos
      cases hv
      have d1 := hE k hlt 0 (by omega)
      have d2 := hE k hlt 1 (by omega)
      have hts := take_snocS hlt
      have hmet := fun j => met_iff (l := l) (k := k) (by omega) j
      have hbad := fun q => recE_bad (l := l) hlt q
      have hAt : ∀ x, l.getD k default = x → shOK x → (∀ j, j < k → (l.getD j default).a ≠ x.a) → shAt l k := fun x hx h1 h2 => by unfold shAt; rw [hx]; exact ⟨h1, h2⟩
      have hAt2 : ∀ x, l.getD k default = x → shAt l k → shOK x ∧ ∀ j, j < k → (l.getD j default).a ≠ x.a := fun x hx h1 => by unfold shAt at h1; rw [hx] at h1; exact h1
      obtain ⟨x, hx⟩ : ∃ x, l.getD k default = x := ⟨_, rfl⟩
      have hA := hAt x hx
      have hA2 := hAt2 x hx
      rw [hx] at d1 d2 hts
      have hbk : b ≠ w.heap.size := by omega
      simp only [encSh, List.getD_cons_zero, List.getD_cons_succ, Nat.add_zero] at d1 d2
      have HA := Lib.hid hA
      have HG := Lib.hid hgood
      clear hx hAt hAt2 hE hA hgood
      by_cases ha1 : x.a < 1
      · have q := hbad (fun hc => by have := (hA2 hc).1.1; omega)
        clear hbad hA2 hmet hts
        have HQ1 := Lib.hid q.1
        have HQ2 := Lib.hid q.2
        clear q
        go_wp2
        all_goals go_ret2
        all_goals exact ⟨ret_int2 HQ2.out.symm HQ1.out.symm, hBr.alloc hBr.size _⟩
      by_cases ha2 : 24 < x.a
      · have q := hbad (fun hc => by have := (hA2 hc).1.2.1; omega)
        clear hbad hA2 hmet hts
        have HQ1 := Lib.hid q.1
        have HQ2 := Lib.hid q.2
        clear q
        go_wp2
        all_goals go_ret2
        all_goals exact ⟨ret_int2 HQ2.out.symm HQ1.out.symm, hBr.alloc hBr.size _⟩
      obtain ⟨j, hj⟩ : ∃ j : Nat, x.a = (j : Int) := ⟨x.a.toNat, by omega⟩
      have hj25 : j < 25 := by omega
      have m1 : ∀ o, (wr.alloc o).cell? ⟨w.heap.size, j, none⟩ = some (.bool (metB (l.take k) j)) := fun o => by
        rw [(hM.alloc o).cell, metL_get _ hj25]
      have m2 : ∀ o, (wr.alloc o).frozen? ⟨w.heap.size, j, none⟩ = false := fun o => (hM.alloc o).frozen j
      by_cases hm : metB (l.take k) j = true
      · have q := hbad (fun hc => by
          obtain ⟨i, hi, he⟩ := (hmet j).1 hm
          exact (hA2 hc).2 i hi (by omega))
        have t1 : ¬ ((j : Int) < 1) := by omega
        have t2 : ¬ (24 < (j : Int)) := by omega
        rw [hm] at m1
        rw [hj] at d1
        clear hbad hA2 hmet hts hm hj
        have HQ1 := Lib.hid q.1
        have HQ2 := Lib.hid q.2
        clear q
        go_wp2
        all_goals go_ret2
        all_goals exact ⟨ret_int2 HQ2.out.symm HQ1.out.symm, hBr.alloc hBr.size _⟩
      have hm' : metB (l.take k) j = false := by simpa using hm
      rw [hm'] at m1
      by_cases hv1 : x.v < 0
      · have q := hbad (fun hc => by have := (hA2 hc).1.2.2.1; omega)
        have t1 : ¬ ((j : Int) < 1) := by omega
        have t2 : ¬ (24 < (j : Int)) := by omega
        rw [hj] at d1
        clear hbad hA2 hmet hts hm hm' hj
        have HQ1 := Lib.hid q.1
        have HQ2 := Lib.hid q.2
        clear q
        go_wp2
        all_goals go_ret2
        all_goals exact ⟨ret_int2 HQ2.out.symm HQ1.out.symm, hBr.alloc hBr.size _⟩
      by_cases hv2 : 1073741789 ≤ x.v
      · have q := hbad (fun hc => by have := (hA2 hc).1.2.2.2; omega)
        have t1 : ¬ ((j : Int) < 1) := by omega
        have t2 : ¬ (24 < (j : Int)) := by omega
        rw [hj] at d1
        clear hbad hA2 hmet hts hm hm' hj
        have HQ1 := Lib.hid q.1
        have HQ2 := Lib.hid q.2
        clear q
        go_wp2
        all_goals go_ret2
        all_goals exact ⟨ret_int2 HQ2.out.symm HQ1.out.symm, hBr.alloc hBr.size _⟩
      have hAk : Hid (∀ j, j < k + 1 → shAt l j) := next_sh HG.out (HA.out ⟨by omega, by omega, by omega, by omega⟩ (fun i hi he => hm ((hmet j).2 ⟨i, hi, by omega⟩)))
      have hM2 : Hid (∀ o, Row ((wr.alloc o).setCell ⟨w.heap.size, j, none⟩ (.bool true)) w.heap.size 97 (metL (l.take (k + 1)))) := fun o => by
        have := (hM.alloc o).store j (.bool true)
        rw [metL_set _ x hj, ← hts] at this
        exact this
      have hj2 : 1 ≤ (j : Int) := by omega
      have hj3 : (j : Int) ≤ 24 := by omega
      rw [hj] at d1
      clear hbad hA2 hmet hts hm hm' hj HA HG hM
      go_wp2
      go_roundg (gk - 1)
      case measure => omega
      case rel => exact ⟨rfl, (hBr.alloc hBr.size _).setCell (p := ⟨w.heap.size, j, none⟩) (Nat.le_refl _) _, k + 1, by go_num, by omega, hAk.out, hM2.out _⟩
    · have hF : formedS l := ⟨hpos, fun i hi => hgood i (by omega)⟩
      have hq := recE_ok hF
      have HQ := Lib.hid hq
      have HF := Lib.hid hF
      clear hq hF hgood hM
      go_wp2
      go_loopg [2, 52] l.length (fun g s i wr => Below w.heap.size w wr ∧ ∃ k : Nat, i = .int .i64 k ∧ k + g = l.length ∧ s = .int .i64 (recTo l k))
      case atStart => exact ⟨hBr, 0, rfl, by omega, rfl⟩
      case round =>
        clear hBr
        obtain ⟨hBr, k2, rfl, hk2, rfl⟩ := hrel
        by_cases hlt2 : k2 < l.length
        · have HS' := HS.out.below (hBr.mono hB)
          obtain ⟨_, A', c', hv, hE⟩ := HS'
          obtain ⟨b, off, rfl, hb, hE⟩ := hE hpos
          cases hv
          have d1 := hE k2 hlt2 0 (by omega)
          have d2 := hE k2 hlt2 1 (by omega)
          have hrs := recTo_succ hlt2
          have hok := (HF.out.2 k2 hlt2).1
          obtain ⟨x, hx⟩ : ∃ x, l.getD k2 default = x := ⟨_, rfl⟩
          rw [hx] at d1 d2 hrs hok
          simp only [encSh, List.getD_cons_zero, List.getD_cons_succ, Nat.add_zero] at d1 d2
          obtain ⟨x1, x2, x3, x4⟩ := hok
          have HR := Lib.hid hrs
          have hrb := recTo_bd l k2
          obtain ⟨R, hR⟩ : ∃ R, recTo l k2 = R := ⟨_, rfl⟩
          rw [hR] at hrb
          have HRR := Lib.hid hR
          rw [hR]
          clear hx hrs hR hE
          obtain ⟨G, rfl⟩ : ∃ G : Nat, G = gk := ⟨_, rfl⟩
          obtain ⟨wo, rfl⟩ : ∃ wo : World, wo = wr := ⟨_, rfl⟩
          go_wp2
          go_loopg [9, 10, 60] l.length (fun g ab be i wr2 => Below (wo.alloc (.cells #[.int .i64 x.a, .int .i64 x.v] 85)).heap.size (wo.alloc (.cells #[.int .i64 x.a, .int .i64 x.v] 85)) wr2 ∧ ∃ k : Nat, i = .int .i64 k ∧ k + g = l.length ∧ ab = .int .i64 (aboveQ x (l.take k)) ∧ be = .int .i64 (belowQ x (l.take k)))
          case atStart => exact ⟨Below.refl _ _, 0, rfl, by omega, rfl, rfl⟩
          case round =>
            obtain ⟨hBi, k3, rfl, hk3, rfl, rfl⟩ := hrel
            have hBw : Below w.heap.size w wr := (hBr.alloc hBr.size _).trans (hBi.mono (by have := hBr.size; simp; omega))
            have hx0 : ∀ o, (wr.alloc o).cell? ⟨wo.heap.size, 0, none⟩ = some (.int .i64 x.a) := fun o =>
              (World.cell?_alloc_lt wr o ⟨wo.heap.size, 0, none⟩ (by have := hBi.size; simp at this; simp only []; omega)).trans ((hBi.cell (p := ⟨wo.heap.size, 0, none⟩) (by simp)).trans (by simp))
            have ab := aboveQ_bd (s := x) ⟨x3, x4⟩ (l.take k3)
            have bb := belowQ_bd x (l.take k3)
            by_cases hlt3 : k3 < l.length
            · have HS' := HS.out.below (hBw.mono hB)
              obtain ⟨_, A', c', hv, hE⟩ := HS'
              obtain ⟨b2, off2, hA2, hb2, hE⟩ := hE hpos
              cases hv
              injection hA2 with hA2
              injection hA2 with e1 e2
              subst e1 e2
              have f1 := hE k3 hlt3 0 (by omega)
              have f2 := hE k3 hlt3 1 (by omega)
              have hts := take_snocS hlt3
              have hok := (HF.out.2 k3 hlt3).1
              obtain ⟨y, hy⟩ : ∃ y, l.getD k3 default = y := ⟨_, rfl⟩
              rw [hy] at f1 f2 hts hok
              simp only [encSh, List.getD_cons_zero, List.getD_cons_succ, Nat.add_zero] at f1 f2
              obtain ⟨y1, y2, _, _⟩ := hok
              have hA : aboveQ x (l.take (k3 + 1)) = stepA x (aboveQ x (l.take k3)) y := by rw [hts, aboveQ_snoc]
              have hBe : belowQ x (l.take (k3 + 1)) = stepB x (belowQ x (l.take k3)) y := by rw [hts, belowQ_snoc]
              generalize aboveQ x (l.take k3) = AB at *
              generalize belowQ x (l.take k3) = BE at *
              have p1 := mul_smallQ (x := AB) (y := y.a) ab (by omega)
              have p2 := mul_smallQ (x := BE) (y := (y.a - x.a) % 1073741789) bb (by omega)
              have HN := Lib.hid (hBi.alloc hBi.size (.cells #[.int .i64 y.a, .int .i64 y.v] 85))
              by_cases hya : y.a = x.a
              · have hA' : Hid (aboveQ x (l.take (k3 + 1)) = AB) := by show _ = _; rw [hA, stepA, if_pos hya]
                have hB' : Hid (belowQ x (l.take (k3 + 1)) = BE) := by show _ = _; rw [hBe, stepB, if_pos hya]
                have t1 : (y.a != x.a) = false := by rw [hya]; simp
                clear hA hBe hts hy hE d1 d2 hya hBw
                go_wp2
                go_roundg (gk - 1)
                case measure => omega
                case rel => exact ⟨HN.out, k3 + 1, by go_num, by omega, by rw [hA'.out], by rw [hB'.out]⟩
              · have hA' : Hid (aboveQ x (l.take (k3 + 1)) = AB * y.a % 1073741789) := by show _ = _; rw [hA, stepA, if_neg hya]
                have hB' : Hid (belowQ x (l.take (k3 + 1)) = BE * ((y.a - x.a) % 1073741789) % 1073741789) := by show _ = _; rw [hBe, stepB, if_neg hya]
                have t1 : (y.a != x.a) = true := by rw [bne_iff_ne]; exact hya
                clear hA hBe hts hy hE d1 d2 hya hBw
                go_wp2_with (go_at_call 65; refine (emod_any _ _).mono ?_; rintro e w' ⟨rfl, rfl⟩)
                go_roundg (gk - 1)
                case measure => omega
                case rel => exact ⟨HN.out, k3 + 1, by go_num, by omega, by rw [hA'.out], by rw [hB'.out]⟩
            · obtain rfl : k3 = l.length := by omega
              rw [List.take_length] at *
              have hp := pwQ_bd (belowQ x l) 1073741787
              have hst : Hid (recTo l (k2 + 1) = (R + aboveQ x l * pwQ (belowQ x l) 1073741787) % 1073741789) := by show _ = _; rw [HR.out, stepR, HRR.out]
              have HBw := Lib.hid hBw
              generalize aboveQ x l = AB at *
              generalize belowQ x l = BE at *
              generalize hPW : pwQ BE 1073741787 = PW at *
              have p1 := mul_smallQ (x := AB) (y := PW) ab hp
              clear d1 d2 hx0 hBw HR HRR
              go_wp2_with (go_at_call 66; refine (epower_any _ _ (by omega) (by omega) (by omega) (by omega) _).mono ?_; rintro e w' ⟨rfl, rfl⟩)
              go_roundg (G - 1)
              case measure => omega
              case rel => exact ⟨HBw.out, k2 + 1, by go_num, by omega, by rw [hst.out]⟩
        · obtain rfl : k2 = l.length := by omega
          have HQ1 := Lib.hid HQ.out.1
          have HQ2 := Lib.hid HQ.out.2
          go_wp2
          go_ret2
          exact ⟨ret_int2 HQ2.out.symm HQ1.out.symm, hBr⟩

set_option maxHeartbeats 400000 in
theorem recover_any (l : List Sh) (v : Value) (w : World) (B0 : Nat) (hB : B0 ≤ w.heap.size) (h : SlSh w B0 v l) :
    Calls Try.prog 55 #[v] w fun e w' => e = .returned (.tuple #[.int .i64 (recV l), .int .i64 (recE l)]) ∧ Below w.heap.size w w' := by
  by_cases hpos : 0 < l.length
  · exact recover_in l v w B0 hB h hpos
  · obtain rfl : l = [] := List.eq_nil_of_length_eq_zero (by omega)
    obtain ⟨hlen, A, c, rfl, _⟩ := h
    rw [recE_nil.1, recE_nil.2]
    go_enter Try.func55, Try.ntmps55
    go_wp2
    go_ret2
    exact ⟨rfl, (Below.refl _ _).alloc (Nat.le_refl _) _⟩
end Go.Proofs.Ytlbnbginippjfaa
