import Derived.Deep.AppendLies
import Derived.Deep.CutRange
import Derived.Deep.Cut
import Derived.OrdersHeld
import Derived.RangeFuncBox
import Derived.BigRegionIn
import Derived.Stop.RegionWithIn
import Derived.ChangeAlike
import Derived.Test.YthboebhghaabnaaGreatDoorPze
set_option linter.unusedSimpArgs false
set_option linter.unusedVariables false
namespace Go.Proofs.YthboebhghaabnaaGreatDoor
open Go.RowKit Fk Sha
/-! Where each letter goes. -/
set_option maxRecDepth 100000 in
set_option maxHeartbeats 4000000 in
theorem trace_any (t : Tn) (x : TnA) (w : World) (h : TnS w w.heap.size x t) :
    Calls Tryz.prog 17 #[.agg (x.cells t).toArray] w fun e w' => ∃ v, e = .returned (.tuple #[v, .int .i64 (traceE t)]) ∧ Below w.heap.size w w' ∧ SlI w' w'.heap.size v (traceC t) := by
  have hB := below_alloc' w (.cells (x.cells t).toArray 27)
  have r0 := Row.new w 27 (x.cells t)
  have h2 := h.below hB
  obtain ⟨W, hW⟩ : ∃ W, w.alloc (.cells (x.cells t).toArray 27) = W := ⟨_, rfl⟩
  replace r0 : Row W w.heap.size 27 (x.cells t) := hW ▸ r0
  rw [hW] at hB h2
  have q1 := right_any t x t.l.length W (h2.mono hB.size)
  obtain ⟨al, cl, ar, cr, arl, crl, arr, crr, at_, ct⟩ := x
  unfold TnA.cells at r0 hW q1 ⊢
  simp only at r0 hW q1 ⊢
  replace hW : w.alloc (.cells #[.slice al t.l.length cl, .slice ar t.r.length cr, .slice arl t.rl.length crl, .slice arr t.rr.length crr, .slice at_ t.s.length ct] 27) = W := hW
  have c0 : W.cell? ⟨w.heap.size, 0, none⟩ = some _ := r0.cell 0
  have c1 : W.cell? ⟨w.heap.size, 1, none⟩ = some _ := r0.cell 1
  have c2 : W.cell? ⟨w.heap.size, 2, none⟩ = some _ := r0.cell 2
  have c3 : W.cell? ⟨w.heap.size, 3, none⟩ = some _ := r0.cell 3
  have c4 : W.cell? ⟨w.heap.size, 4, none⟩ = some _ := r0.cell 4
  have hlt := r0.lt
  have htE : traceE t = if rightB t t.l.length then 0 else 140 := rfl
  have htC : traceC t = if rightB t t.l.length then goTo t.l t.r else [] := rfl
  cases hr : rightB t t.l.length with
  | false =>
    rw [hr] at q1
    rw [hr, if_neg (by decide)] at htE htC
    rw [htE, htC]
    have Q1 := Lib.hid q1
    clear q1 hr h2 h r0 htE htC
    go_enter Tryz.func17, Tryz.ntmps17
    go_upto_region 1 with fail
    try rw [hW]
    clear hW
    go_wp2_with (go_at_call 24; (with_reducible refine Q1.out.mono ?_); rintro e w1 ⟨rfl, hb⟩)
    go_ret2
    exact ⟨_, rfl, hB.trans (hb.mono hB.size), SlG.nil_ _ _⟩
  | true =>
    rw [hr] at q1
    rw [hr, if_pos rfl] at htE htC
    rw [htE, htC]
    obtain ⟨f1, f2, f3, f4, f5, f6, f7, f8⟩ := rightB_facts hr
    have Q1 := Lib.hid q1
    have H2 := Lib.hid h2
    have HP := Lib.hid f7
    have F2 := Lib.hid f2
    clear q1 hr h r0 htE htC h2 f1 f2 f3 f4 f5 f7 f8
    go_enter Tryz.func17, Tryz.ntmps17
    go_upto_region 1 with fail
    try rw [hW]
    clear hW
    go_upto_region 3 with (go_at_call 24; (with_reducible refine Q1.out.mono ?_); rintro e w1 ⟨rfl, hb⟩; have g0 : w1.cell? ⟨w.heap.size, 0, none⟩ = _ := (hb.cell (p := ⟨w.heap.size, 0, none⟩) hlt).trans c0; have g1 : w1.cell? ⟨w.heap.size, 1, none⟩ = _ := (hb.cell (p := ⟨w.heap.size, 1, none⟩) hlt).trans c1)
    obtain ⟨Z, hZ⟩ : ∃ Z, (List.replicate t.l.length (Value.int .i64 0)).toArray = Z := ⟨_, rfl⟩
    have hmk := make_ints t.l.length (by omega) w1
    rw [hZ] at hmk
    go_upto_region 4 with fail
    have hg : Row (w1.alloc (.cells Z 3)) w1.heap.size 3 ((layTo t.l.length 0 t.l (fun j => t.r.getD j default) 0).map (Value.int .i64)) := by
      rw [layTo_zero, List.map_replicate, ← hZ]
      exact Row.new w1 _ _
    have hb1 := hb.alloc hb.size (.cells Z 3)
    have hgz := hb.size
    have g0' : (w1.alloc (.cells Z 3)).cell? ⟨w.heap.size, 0, none⟩ = _ := (hb1.cell (p := ⟨w.heap.size, 0, none⟩) hlt).trans c0
    generalize w1.alloc (.cells Z 3) = W1 at *
    generalize w1.heap.size = g at *
    clear hmk hZ g0 g1 c2 c3 c4 hb
    go_wp2_with fail
    go_loopg [19] t.l.length (fun gh iv wr => ∃ k : Nat, iv = .int .i64 k ∧ k + gh = t.l.length ∧ Below W.heap.size W wr ∧ Row wr g 3 ((layTo t.l.length 0 t.l (fun j => t.r.getD j default) k).map (Value.int .i64)))
    case atStart => exact ⟨0, rfl, by omega, hb1, hg⟩
    case round =>
      clear hb1 hg g0'
      obtain ⟨k, rfl, hkg, hBr, hR⟩ := hrel
      by_cases hk : k < t.l.length
      · obtain ⟨b0, o0, ha0, hb0, e0⟩ := sl_at (H2.out.l.belowN hBr hB.size) hk
        obtain ⟨b1, o1, ha1, hb1, e1⟩ := sl_at (H2.out.r.belowN hBr hB.size) (j := k) (by rw [F2.out]; exact hk)
        subst ha0 ha1
        have d0 := e0 0 (by omega)
        have d1 := e1 0 (by omega)
        have hat := permB_at HP.out hk
        have hsu := layTo_succ t.l.length 0 t.l (fun j => t.r.getD j default) k
        have hln := layTo_length t.l.length (0 : Int) t.l (fun j => t.r.getD j default) k
        obtain ⟨p, hp⟩ : ∃ p : Nat, t.l.getD k default = p := ⟨(t.l.getD k default).toNat, by omega⟩
        obtain ⟨q, hq⟩ : ∃ q, t.r.getD k default = q := ⟨_, rfl⟩
        rw [hp] at hat hsu
        simp only [hq, Int.toNat_natCast] at hsu
        simp only [encI, hp, hq, List.getD_cons_zero, Nat.add_zero, Nat.mul_one] at d0 d1
        have m1 : wr.cell? ⟨w.heap.size, 1, none⟩ = _ := (hBr.cell (p := ⟨w.heap.size, 1, none⟩) hlt).trans c1
        have s1 : (0 : Int) ≤ k := by omega
        have s2 : (k : Int) < t.l.length := by omega
        have s3 : (k : Int) < t.r.length := by rw [F2.out]; exact s2
        obtain ⟨s4, s5⟩ := hat
        have s6 : p < t.l.length := by omega
        have hold : ∃ u, wr.cell? ⟨g, p, none⟩ = some u := ⟨_, by rw [hR.cell, List.getElem?_eq_getElem (by rw [List.length_map, hln]; exact s6)]⟩
        obtain ⟨u, hold⟩ := hold
        have hfz := hR.frozen p
        have fin : Below W.heap.size W (wr.setCell ⟨g, p, none⟩ (.int .i64 q)) ∧ Row (wr.setCell ⟨g, p, none⟩ (.int .i64 q)) g 3 ((layTo t.l.length 0 t.l (fun j => t.r.getD j default) (k + 1)).map (Value.int .i64)) := by
          refine ⟨hBr.setCell (p := ⟨g, p, none⟩) hgz _, ?_⟩
          have := hR.store p (.int .i64 q)
          rw [hsu, List.map_set]
          exact this
        have FIN := Lib.hid fin
        clear fin hR hsu hln e0 e1 hp hq
        go_wp2_with fail
        go_roundg (gk - 1)
        case measure => omega
        case rel => exact ⟨k + 1, by first | rfl | go_num, by omega, FIN.out⟩
      · obtain rfl : k = t.l.length := by omega
        have hres : SlI wr wr.heap.size (.slice (some ⟨g, 0, none⟩) t.l.length t.l.length) (goTo t.l t.r) := by
          have := row_ints (c := t.l.length) hR (by rw [layTo_length]; omega) hR.lt
          rwa [layTo_length] at this
        have HRES := Lib.hid hres
        clear hres hR
        go_wp2_with fail
        go_ret2
        exact ⟨_, rfl, hB.trans (hBr.mono hB.size), HRES.out⟩
end Go.Proofs.YthboebhghaabnaaGreatDoor

set_option linter.unusedSimpArgs false
set_option linter.unusedVariables false
namespace Go.Proofs.YthboebhghaabnaaGreatDoor
open Go.RowKit Fk Sha
/-! What accepted openings say. -/
theorem eqSe_iff {s t : Se} : eqSe s t = true ↔ s = t := by
  obtain ⟨⟨a, b⟩, ⟨c, d⟩, ⟨e, f⟩⟩ := s
  obtain ⟨⟨a', b'⟩, ⟨c', d'⟩, ⟨e', f'⟩⟩ := t
  simp [eqSe, eqCi, and_assoc]
structure Chk (key : Int) (m : Mx) (bits : List Int) (l : List Og) : Prop where
  lm : m.m.length = m.i.length
  lo : m.o.length = m.i.length
  ll : m.l.length = m.i.length
  lr : m.r.length = m.i.length
  lb : bits.length = m.i.length
  lg : l.length = m.i.length
  ky : vld key = true
  few : m.i.length ≤ 64
  fi : m.i.all okS = true
  fm : m.m.all okS = true
  fo : m.o.all okS = true
  bit : bits.all bitB = true
  fit : ∀ j, j < m.i.length → fitsB key m j (bits.getD j default) (l.getD j default) = true
  nd : (placesTo bits l m.i.length).Nodup
theorem checkB_iff {key : Int} {m : Mx} {bits : List Int} {l : List Og} : checkB key m bits l = true ↔ Chk key m bits l := by
  unfold checkB longB formB
  simp only [Bool.and_eq_true, decide_eq_true_iff, List.all_eq_true (l := List.range _), List.mem_range]
  constructor
  · rintro ⟨⟨h1, h2, h3, h4, h5, h6⟩, ⟨k1, k2, k3, k4, k5, k6⟩, f, n⟩
    exact ⟨h1, h2, h3, h4, h5, h6, k1, k2, k3, k4, k5, k6, f, n⟩
  · rintro ⟨h1, h2, h3, h4, h5, h6, k1, k2, k3, k4, k5, k6, f, n⟩
    exact ⟨⟨h1, h2, h3, h4, h5, h6⟩, ⟨k1, k2, k3, k4, k5, k6⟩, f, n⟩
structure Fit (key : Int) (m : Mx) (j : Nat) (b : Int) (o : Og) : Prop where
  ge : 0 ≤ o.a
  lt : o.a < m.i.length
  com : (if b = 0 then m.l else m.r).getD j default = comN (tagOf b) o
  ends : if b = 0 then againC key (m.i.getD o.a.toNat default) o.r = m.m.getD j default else againC key (m.m.getD j default) o.r = m.o.getD o.a.toNat default
theorem fitsB_iff {key : Int} {m : Mx} {j : Nat} {b : Int} {o : Og} : fitsB key m j b o = true ↔ Fit key m j b o := by
  unfold fitsB
  by_cases hb : b = 0
  · simp only [hb, if_true, Bool.and_eq_true, decide_eq_true_iff, eqSe_iff]
    exact ⟨fun ⟨⟨h1, h2⟩, h3, h4⟩ => ⟨h1, h2, by simpa using h3, by simpa using h4⟩, fun ⟨h1, h2, h3, h4⟩ => ⟨⟨h1, h2⟩, by simpa using h3, by simpa using h4⟩⟩
  · simp only [hb, if_false, Bool.and_eq_true, decide_eq_true_iff, eqSe_iff]
    exact ⟨fun ⟨⟨h1, h2⟩, h3, h4⟩ => ⟨h1, h2, by simpa [hb] using h3, by simpa [hb] using h4⟩, fun ⟨h1, h2, h3, h4⟩ => ⟨⟨h1, h2⟩, by simpa [hb] using h3, by simpa [hb] using h4⟩⟩
def opp (bits : List Int) : List Int := bits.map fun b => 1 - b
theorem opp_length (bits : List Int) : (opp bits).length = bits.length := by simp [opp]
theorem opp_get {bits : List Int} {j : Nat} (h : j < bits.length) : (opp bits).getD j default = 1 - bits.getD j default := by
  rw [getD_eq_getElem' h, getD_eq_getElem' (by rw [opp_length]; exact h)]
  simp [opp]
def leftOg (bits : List Int) (l o : List Og) (j : Nat) : Og := if bits.getD j default = 0 then l.getD j default else o.getD j default
def rightOg (bits : List Int) (l o : List Og) (j : Nat) : Og := if bits.getD j default = 0 then o.getD j default else l.getD j default
theorem leftOg_a (bits : List Int) (l o : List Og) (j : Nat) : (leftOg bits l o j).a = leftAt bits l o j := by unfold leftOg leftAt; split <;> rfl
theorem rightOg_a (bits : List Int) (l o : List Og) (j : Nat) : (rightOg bits l o j).a = rightAt bits l o j := by unfold rightOg rightAt; split <;> rfl
theorem bit_at {bits : List Int} (h : bits.all bitB = true) {j : Nat} (hj : j < bits.length) : bits.getD j default = 0 ∨ bits.getD j default = 1 := by
  have := List.all_eq_true.1 h _ (mem_getD hj)
  unfold bitB at this
  simpa using this
section
variable {key : Int} {m : Mx} {bits : List Int} {l o : List Og}
theorem two_fits (h : Chk key m bits l) (k : Chk key m (opp bits) o) {j : Nat} (hj : j < m.i.length) : Fit key m j 0 (leftOg bits l o j) ∧ Fit key m j 1 (rightOg bits l o j) := by
  have h1 := fitsB_iff.1 (h.fit j hj)
  have h2 := fitsB_iff.1 (k.fit j hj)
  rw [opp_get (by rw [h.lb]; exact hj)] at h2
  rcases bit_at h.bit (j := j) (by rw [h.lb]; exact hj) with e | e
  · rw [e] at h1 h2
    unfold leftOg rightOg
    rw [e, if_pos rfl, if_pos rfl]
    exact ⟨h1, h2⟩
  · rw [e] at h1 h2
    unfold leftOg rightOg
    rw [e, if_neg (by omega), if_neg (by omega)]
    exact ⟨h2, h1⟩
theorem left_in (h : Chk key m bits l) (k : Chk key m (opp bits) o) {j : Nat} (hj : j < m.i.length) : 0 ≤ leftAt bits l o j ∧ leftAt bits l o j < m.i.length := by
  rw [← leftOg_a]
  exact ⟨(two_fits h k hj).1.ge, (two_fits h k hj).1.lt⟩
theorem right_in (h : Chk key m bits l) (k : Chk key m (opp bits) o) {j : Nat} (hj : j < m.i.length) : 0 ≤ rightAt bits l o j ∧ rightAt bits l o j < m.i.length := by
  rw [← rightOg_a]
  exact ⟨(two_fits h k hj).2.ge, (two_fits h k hj).2.lt⟩
theorem left_sealed (h : Chk key m bits l) (k : Chk key m (opp bits) o) {j : Nat} (hj : j < m.i.length) : againC key (m.i.getD (leftAt bits l o j).toNat default) (leftOg bits l o j).r = m.m.getD j default := by
  have := (two_fits h k hj).1.ends
  rw [if_pos rfl, leftOg_a] at this
  exact this
theorem right_sealed (h : Chk key m bits l) (k : Chk key m (opp bits) o) {j : Nat} (hj : j < m.i.length) : againC key (m.m.getD j default) (rightOg bits l o j).r = m.o.getD (rightAt bits l o j).toNat default := by
  have := (two_fits h k hj).2.ends
  rw [if_neg (by omega), rightOg_a] at this
  exact this
theorem leftTo_length (bits : List Int) (l o : List Og) (k : Nat) : (leftTo bits l o k).length = k := by simp [leftTo]
theorem rightTo_length (bits : List Int) (l o : List Og) (k : Nat) : (rightTo bits l o k).length = k := by simp [rightTo]
theorem leftTo_get {k j : Nat} (h : j < k) : (leftTo bits l o k).getD j default = leftAt bits l o j := map_range_get _ h
theorem rightTo_get {k j : Nat} (h : j < k) : (rightTo bits l o k).getD j default = rightAt bits l o j := map_range_get _ h
theorem map_range_nodup {f : Nat → Int} {k : Nat} (h : ∀ i j, i < j → j < k → f i ≠ f j) : ((List.range k).map f).Nodup := by
  refine nodup_of_inj fun i j hij hj e => ?_
  simp at hj
  rw [map_range_get f (by omega), map_range_get f hj] at e
  exact h i j hij hj e
theorem perm_of {f : Nat → Int} {k : Nat} (h : ∀ i j, i < j → j < k → f i ≠ f j) (hr : ∀ j, j < k → 0 ≤ f j ∧ f j < k) : permB ((List.range k).map f) = true := by
  rw [permB_iff]
  refine ⟨map_range_nodup h, fun x hx => ?_⟩
  obtain ⟨j, hj, rfl⟩ := List.mem_map.1 hx
  have := hr j (by simpa using hj)
  simpa using this
/-- Whole answers, or two halves of one side have one place -/
theorem whole_or (h : Chk key m bits l) (k : Chk key m (opp bits) o) : wholeB bits l o = true ∨ ∃ i j, i < j ∧ j < m.i.length ∧ (leftAt bits l o j = leftAt bits l o i ∨ rightAt bits l o j = rightAt bits l o i) := by
  rcases Classical.em (∃ i j, i < j ∧ j < m.i.length ∧ (leftAt bits l o j = leftAt bits l o i ∨ rightAt bits l o j = rightAt bits l o i)) with e | e
  · exact .inr e
  · refine .inl ?_
    unfold wholeB leftTo rightTo
    rw [decide_eq_true (show bits.length ≤ 64 by rw [h.lb]; exact h.few), decide_eq_true (show l.length = bits.length by rw [h.lb, h.lg]), decide_eq_true (show o.length = bits.length by rw [h.lb, k.lg]), h.bit]
    simp only [Bool.true_and, Bool.and_eq_true]
    rw [h.lb]
    exact ⟨perm_of (fun i j h1 h2 e2 => e ⟨i, j, h1, h2, .inl e2.symm⟩) (fun j hj => left_in h k hj), perm_of (fun i j h1 h2 e2 => e ⟨i, j, h1, h2, .inr e2.symm⟩) (fun j hj => right_in h k hj)⟩
theorem places_ne (h : Chk key m bits l) {i j : Nat} (hij : i < j) (hj : j < m.i.length) (hb : bits.getD i default = bits.getD j default) : (l.getD i default).a ≠ (l.getD j default).a := by
  intro e
  have hl : (placesTo bits l m.i.length).length = m.i.length := by simp [placesTo]
  have g : ∀ k, k < m.i.length → (placesTo bits l m.i.length).getD k default = (bits.getD k default, (l.getD k default).a) := fun k hk => map_range_get _ hk
  have := nodup_inj h.nd (i := i) (j := j) (by omega) (by omega) (by rw [g i (by omega), g j hj, hb, e])
  omega
/-- all left and all right halves -/
theorem whole_all (h : Chk key m bits l) (k : Chk key m (opp bits) o) (hz : ∀ j, j < bits.length → bits.getD j default = 0) : wholeB bits l o = true := by
  have hb := h.lb
  rcases whole_or h k with e | ⟨i, j, h1, h2, e⟩
  · exact e
  · exfalso
    have z1 := hz i (by omega)
    have z2 := hz j (by omega)
    have y1 := opp_get (bits := bits) (j := i) (by omega)
    have y2 := opp_get (bits := bits) (j := j) (by omega)
    unfold leftAt rightAt at e
    rw [z1, z2, if_pos rfl, if_pos rfl, if_pos rfl, if_pos rfl] at e
    rcases e with e | e
    · exact places_ne h h1 h2 (by rw [z1, z2]) e.symm
    · exact places_ne k h1 h2 (by rw [y1, y2, z1, z2]) e.symm
/-- what Whole says then -/
theorem whole_perm (hw : wholeB bits l o = true) : permB (wholeC bits l o) = true ∧ (wholeC bits l o).length = bits.length ∧ ∀ j, j < bits.length → (wholeC bits l o).getD (leftAt bits l o j).toNat default = rightAt bits l o j := by
  have hw' := hw
  unfold wholeB at hw'
  simp only [Bool.and_eq_true, decide_eq_true_iff] at hw'
  obtain ⟨_, p1, p2⟩ := hw'
  unfold wholeC
  rw [if_pos hw]
  refine ⟨goTo_perm p1 p2 (by rw [leftTo_length, rightTo_length]), by rw [goTo_length, leftTo_length], fun j hj => ?_⟩
  have := goTo_get (q := rightTo bits l o bits.length) p1 (j := j) (by rw [leftTo_length]; exact hj)
  rwa [leftTo_get hj, rightTo_get hj] at this
end
end Go.Proofs.YthboebhghaabnaaGreatDoor

set_option linter.unusedSimpArgs false
set_option linter.unusedVariables false
namespace Go.Proofs.YthboebhghaabnaaGreatDoor
open Go.RowKit Fk Sha
/-! The opening of one half of each letter. -/
theorem infoOg : (Tryz.prog.info? 60).map (fun i => (i.zero, i.size, i.bytes)) = some (some (.agg zOgC.toArray), 36, 64) := by kernel_rfl
theorem og_len {o : Og} (h : o.s.length = 32) : o.cells.length = 36 := by simp [Og.cells, h]
theorem one_og (o : Og) (h : o.s.length = 32) (w : World) : (Instr.buildSlice 38 1 #[(0, .agg o.cells.toArray)]).run Tryz.prog w = .ok (.slice (some ⟨w.heap.size, 0, none⟩) 1 1) (w.alloc (.cells o.cells.toArray 60)) := by
  obtain ⟨i0, hi, hz0, hz1, hz2⟩ := info_parts infoOg
  have hl := og_len h
  exact one_slice w _ _ _ i0 _ Tryz.underlying38 hi hz0 (by rw [hz1]; simp [hl]) (by simp [hl]) (by simp [hl])
abbrev ownO (base : Nat) (w : World) (v : Value) (l : List Og) : Prop := w.ownsRow base 60 36 v l.length (l.flatMap Og.cells)
theorem ogL_ok {t : Tn} {j : Nat} (hj : j < t.s.length) (h : ∀ i, i < t.s.length → (t.s.getD i default).length = 64) : (ogL t j).s.length = 32 := by
  show ((t.s.getD j default).take 32).length = 32
  rw [List.length_take, h j hj]; rfl
theorem ogR_ok {t : Tn} {j : Nat} (hj : j < t.s.length) (h : ∀ i, i < t.s.length → (t.s.getD i default).length = 64) : (ogR t j).s.length = 32 := by
  show (((t.s.getD j default).drop 32).take 32).length = 32
  rw [List.length_take, List.length_drop, h j hj]; rfl
theorem cells_row {w : World} {g : Nat} {t : TypeId} {vs : List Value} (h : Row w g t vs) : ∀ j u, vs[j]? = some u → w.cell? ((⟨g, 0, none⟩ : Addr).add j) = some u := fun j u hj => by
  rw [addr_add0, h.cell, Nat.zero_add]; exact hj
/-- the two ways to open a letter -/
def fnOf (b : Int) : Nat := if b = 0 then 48 else 51
theorem halfof_any (t : Tn) (x : TnA) (j : Nat) (b : Int) (w : World) (h : TnS w w.heap.size x t) (hb : b = 0 ∨ b = 1) (hl : j < t.l.length) (hr : j < t.r.length) (hrl : j < t.rl.length) (hrr : j < t.rr.length) (hs : j < t.s.length) (h64 : (t.s.getD j default).length = 64) :
    Calls Tryz.prog (fnOf b) #[.agg (x.cells t).toArray, .int .i64 j] w fun e w' => e = .returned (.agg (ogAt t j b).cells.toArray) ∧ Below w.heap.size w w' := by
  rcases hb with rfl | rfl
  · exact half1_any t x j w h hl hrl hs h64
  · exact half4_any t x j w h hr hrr hs h64
theorem openTo_succ (t : Tn) (bits : List Int) (k : Nat) : openTo t bits (k + 1) = openTo t bits k ++ [ogAt t k (bits.getD k default)] := map_range_snoc _ _
theorem openTo_length (t : Tn) (bits : List Int) (k : Nat) : (openTo t bits k).length = k := by simp [openTo]
set_option maxRecDepth 100000 in
set_option maxHeartbeats 4000000 in
theorem open_main (t : Tn) (x : TnA) (bits : List Int) (A : Option Addr) (c : Nat) (w : World) (h : TnS w w.heap.size x t) (hb : SlI w w.heap.size (.slice A bits.length c) bits) (h64 : ∀ i, i < t.s.length → (t.s.getD i default).length = 64) (hr : rightB t bits.length = true) (hbit : bits.all bitB = true) :
    Calls Tryz.prog 16 #[.agg (x.cells t).toArray, .slice A bits.length c] w fun e w' => ∃ v, e = .returned (.tuple #[v, .int .i64 0]) ∧ Below w.heap.size w w' ∧ SlG 36 Og.cells w' w'.heap.size v (openTo t bits bits.length) := by
  obtain ⟨f1, f2, f3, f4, f5, f6, f7, f8⟩ := rightB_facts hr
  have hB := below_alloc' w (.cells (x.cells t).toArray 27)
  have r0 := Row.new w 27 (x.cells t)
  have h2 := h.below hB
  have hb2 := hb.below hB
  obtain ⟨W, hW⟩ : ∃ W, w.alloc (.cells (x.cells t).toArray 27) = W := ⟨_, rfl⟩
  replace r0 : Row W w.heap.size 27 (x.cells t) := hW ▸ r0
  rw [hW] at hB h2 hb2
  have q1 := right_any t x bits.length W (h2.mono hB.size)
  rw [hr] at q1
  have q2 := fun (w' : World) (hbb : Below W.heap.size W w') => binary_any bits _ w' ((hb2.belowN hbb hB.size).mono (Nat.le_trans hB.size hbb.size))
  rw [hbit] at q2
  have q3 := fun w => halves_any w
  unfold halvesV at q3
  have q4 := fun (j : Nat) (b : Int) (w' : World) (hbb : Below W.heap.size W w') (h1 : b = 0 ∨ b = 1) (hj : j < bits.length) => halfof_any t x j b w' ((h2.below (hbb.mono hB.size)).mono (Nat.le_trans hB.size hbb.size)) h1 (by omega) (by omega) (by omega) (by omega) (by omega) (h64 j (by omega))
  have q5 := fun (j : Nat) (b : Int) (h1 : b = 0 ∨ b = 1) (hj : j < bits.length) => (show (ogAt t j b).s.length = 32 by
    rcases h1 with rfl | rfl
    · exact ogL_ok (by omega) h64
    · exact ogR_ok (by omega) h64)
  have q6 := fun (j : Nat) (hj : j < bits.length) => bit_at hbit hj
  obtain ⟨al, cl, ar, cr, arl, crl, arr, crr, at_, ct⟩ := x
  unfold TnA.cells at r0 hW q1 q4 ⊢
  simp only at r0 hW q1 q4 ⊢
  replace hW : w.alloc (.cells #[.slice al t.l.length cl, .slice ar t.r.length cr, .slice arl t.rl.length crl, .slice arr t.rr.length crr, .slice at_ t.s.length ct] 27) = W := hW
  have c0 : W.cell? ⟨w.heap.size, 0, none⟩ = some _ := r0.cell 0
  have c1 : W.cell? ⟨w.heap.size, 1, none⟩ = some _ := r0.cell 1
  have c2 : W.cell? ⟨w.heap.size, 2, none⟩ = some _ := r0.cell 2
  have c3 : W.cell? ⟨w.heap.size, 3, none⟩ = some _ := r0.cell 3
  have c4 : W.cell? ⟨w.heap.size, 4, none⟩ = some _ := r0.cell 4
  have hlt := r0.lt
  have Q1 := Lib.hid q1
  have Q2 := Lib.hid q2
  have Q3 := Lib.hid q3
  have Q4 := Lib.hid q4
  have Q5 := Lib.hid q5
  have Q6 := Lib.hid q6
  have H2 := Lib.hid hb2
  obtain ⟨i0, hi, hz0, hz1, hz2⟩ := info_parts infoOg
  clear q1 q2 q3 q4 q5 q6 hr hbit h hb h64 h2 hb2 f1 f2 f3 f4 f5 f7 f8
  generalize t.l.length = m0 at *
  generalize t.r.length = m1 at *
  generalize t.rl.length = m2 at *
  generalize t.rr.length = m3 at *
  generalize t.s.length = m4 at *
  go_enter Tryz.func16, Tryz.ntmps16
  go_upto_region 1 with fail
  try rw [hW]
  clear hW
  go_upto_region 6 with (first
    | (go_at_call 24; (with_reducible refine Q1.out.mono ?_); rintro e w1 ⟨rfl, hb1⟩)
    | (go_at_call 35; (with_reducible refine (Q2.out _ hb1).mono ?_); rintro e w2 ⟨rfl, hb2⟩; replace hb2 := hb1.trans (hb2.mono hb1.size))
    | (go_at_call 26; (with_reducible refine (Q3.out _).mono ?_); rintro e w3 ⟨rfl, hb3⟩; replace hb3 := hb2.trans (hb3.mono hb2.size)))
  have rh := Row.new w3 72 [.string ⟨#[108, 101, 102, 116]⟩, .func (Fn.func 48) #[] #[], .func (Fn.func 49) #[] #[], .func (Fn.func 50) #[] #[],
    .string ⟨#[114, 105, 103, 104, 116]⟩, .func (Fn.func 51) #[] #[], .func (Fn.func 52) #[] #[], .func (Fn.func 53) #[] #[]]
  obtain ⟨W4, hW4⟩ : ∃ W4, w3.alloc (.cells #[.string ⟨#[108, 101, 102, 116]⟩, .func (Fn.func 48) #[] #[], .func (Fn.func 49) #[] #[], .func (Fn.func 50) #[] #[],
    .string ⟨#[114, 105, 103, 104, 116]⟩, .func (Fn.func 51) #[] #[], .func (Fn.func 52) #[] #[], .func (Fn.func 53) #[] #[]] 72) = W4 := ⟨_, rfl⟩
  replace rh : Row W4 w3.heap.size 72 _ := hW4 ▸ rh
  have hb4 := hb3.alloc hb3.size (.cells #[.string ⟨#[108, 101, 102, 116]⟩, .func (Fn.func 48) #[] #[], .func (Fn.func 49) #[] #[], .func (Fn.func 50) #[] #[],
    .string ⟨#[114, 105, 103, 104, 116]⟩, .func (Fn.func 51) #[] #[], .func (Fn.func 52) #[] #[], .func (Fn.func 53) #[] #[]] 72)
  rw [hW4] at hb4 ⊢
  clear hW4
  have hgz := hb3.size
  clear hb1 hb2 hb3 r0
  generalize w3.heap.size = gh at *
  have e1 : W4.cell? ⟨gh, 1, none⟩ = some (.func (Fn.func 48) #[] #[]) := rh.cell 1
  have e5 : W4.cell? ⟨gh, 5, none⟩ = some (.func (Fn.func 51) #[] #[]) := rh.cell 5
  have hghl := rh.lt
  have hz4 := hb4.size
  go_wp2_with fail
  go_loopg [4, 20] bits.length (fun gg v iv wr => ∃ k : Nat, iv = .int .i64 k ∧ k + gg = bits.length ∧ Below W4.heap.size W4 wr ∧ ownO W4.heap.size wr v (openTo t bits k))
  case atStart => exact ⟨0, rfl, by omega, Below.refl _ _, World.ownsRow_nil _ _ _ _⟩
  case round =>
    obtain ⟨k, rfl, hkg, hBr, hown⟩ := hrel
    have hzr := hBr.size
    by_cases hk : k < bits.length
    · have hbW : Below W.heap.size W wr := hb4.trans (hBr.mono hz4)
      obtain ⟨b0, o0, ha0, hb0, e0⟩ := sl_at (H2.out.belowN hbW hB.size) hk
      subst ha0
      have d0 := e0 0 (by omega)
      have hbt := Q6.out k hk
      have hsu := openTo_succ t bits k
      have hol := openTo_length t bits k
      rw [show ownO W4.heap.size wr u4 (openTo t bits k) = wr.ownsRow W4.heap.size 60 36 u4 k ((openTo t bits k).flatMap Og.cells) by unfold ownO; rw [hol]] at hown
      obtain ⟨b, hbb⟩ : ∃ b, bits.getD k default = b := ⟨_, rfl⟩
      rw [hbb] at hbt hsu
      simp only [encI, hbb, List.getD_cons_zero, Nat.add_zero, Nat.mul_one] at d0
      have q4 := Q4.out k b
      have q5 := Q5.out k b hbt hk
      obtain ⟨o, ho⟩ : ∃ o, ogAt t k b = o := ⟨_, rfl⟩
      rw [ho] at q4 q5 hsu
      have q7 := fun w => one_og o q5 w
      have s1 : (0 : Int) ≤ k := by omega
      have s2 : (k : Int) < bits.length := by omega
      have m0' : wr.cell? ⟨w.heap.size, 0, none⟩ = _ := (hbW.cell (p := ⟨w.heap.size, 0, none⟩) hlt).trans c0
      have m1' : wr.cell? ⟨w.heap.size, 1, none⟩ = _ := (hbW.cell (p := ⟨w.heap.size, 1, none⟩) hlt).trans c1
      have m2' : wr.cell? ⟨w.heap.size, 2, none⟩ = _ := (hbW.cell (p := ⟨w.heap.size, 2, none⟩) hlt).trans c2
      have m3' : wr.cell? ⟨w.heap.size, 3, none⟩ = _ := (hbW.cell (p := ⟨w.heap.size, 3, none⟩) hlt).trans c3
      have m4' : wr.cell? ⟨w.heap.size, 4, none⟩ = _ := (hbW.cell (p := ⟨w.heap.size, 4, none⟩) hlt).trans c4
      have n1 : wr.cell? ⟨gh, 1, none⟩ = _ := (hBr.cell (p := ⟨gh, 1, none⟩) hghl).trans e1
      have n5 : wr.cell? ⟨gh, 5, none⟩ = _ := (hBr.cell (p := ⟨gh, 5, none⟩) hghl).trans e5
      have HSU := Lib.hid hsu
      have Q4' := Lib.hid q4
      have Q5' := Lib.hid q5
      clear q4 q5 hsu hol hbb ho e0
      rcases hbt with rfl | rfl
      all_goals
        go_upto_region 9 with fail
        have hS : wr.drew.cell? ⟨gh, 1, none⟩ = some (.func (Fn.func 48) #[] #[]) ∧ wr.drew.cell? ⟨gh, 5, none⟩ = some (.func (Fn.func 51) #[] #[]) ∧ wr.drew.cell? ⟨w.heap.size, 0, none⟩ = some (.slice al m0 cl) ∧ wr.drew.cell? ⟨w.heap.size, 1, none⟩ = some (.slice ar m1 cr) ∧ wr.drew.cell? ⟨w.heap.size, 2, none⟩ = some (.slice arl m2 crl) ∧ wr.drew.cell? ⟨w.heap.size, 3, none⟩ = some (.slice arr m3 crr) ∧ wr.drew.cell? ⟨w.heap.size, 4, none⟩ = some (.slice at_ m4 ct) := ⟨n1, n5, m0', m1', m2', m3', m4'⟩
        refine wp_region_ord 8 [(0, 0), (1, 1), (1, 2), (1, 3), (1, 4), (1, 5), (1, 6), (2, 7)] (fun w' => w'.cell? ⟨gh, 1, none⟩ = some (.func (Fn.func 48) #[] #[]) ∧ w'.cell? ⟨gh, 5, none⟩ = some (.func (Fn.func 51) #[] #[]) ∧ w'.cell? ⟨w.heap.size, 0, none⟩ = some (.slice al m0 cl) ∧ w'.cell? ⟨w.heap.size, 1, none⟩ = some (.slice ar m1 cr) ∧ w'.cell? ⟨w.heap.size, 2, none⟩ = some (.slice arl m2 crl) ∧ w'.cell? ⟨w.heap.size, 3, none⟩ = some (.slice arr m3 crr) ∧ w'.cell? ⟨w.heap.size, 4, none⟩ = some (.slice at_ m4 ct)) (by kernel_rfl) (by kernel_rfl) (fun _ _ d _ _ h => by cases d <;> exact h) hS ?_
        first
          | (have q : Calls Tryz.prog 48 _ _ _ := Q4'.out wr.drew hbW.drew (by decide) hk)
          | (have q : Calls Tryz.prog 51 _ _ _ := Q4'.out wr.drew hbW.drew (by decide) hk)
        have hown6 : wr.drew.ownsRow W4.heap.size 60 36 u4 k ((openTo t bits k).flatMap Og.cells) := World.ownsRow.kept hown (grown_below' (Below.refl _ _).drew none) (Classical.em _)
        have hB6 : Below W4.heap.size W4 wr.drew := hBr.drew
        have hgh6 : gh < wr.drew.heap.size := Nat.lt_of_lt_of_le hghl hB6.size
        have hw6 : w.heap.size < wr.drew.heap.size := Nat.lt_of_lt_of_le hlt hbW.drew.size
        generalize wr.drew = W6 at *
        have QQ := Lib.hid q
        clear q hown m0' m1' m2' m3' m4' n1 n5 d0 hbW hBr
        refine wpOrd_any (v := u4) rfl (by rfl) (fun w => ?_) ?_
        · go_simp
        simp only [Act.put, List.setIfInBounds_toArray, List.set_cons_zero, List.set_cons_succ]
        iterate 6
          refine wpOrd_take (v := ?_) rfl (by rfl) (fun w hSw => ?_) ?_
          rotate_left 1
          · obtain ⟨k0, k1, k2, k3, k4, k5, k6⟩ := hSw
            go_simp
            with_reducible rfl
          simp only [Act.put, List.setIfInBounds_toArray, List.set_cons_zero, List.set_cons_succ]
        refine wpOrd_step rfl (fun K hK => ⟨by rfl, ?_⟩)
        go_simp
        first
          | (go_at_call 48; refine QQ.out.mono ?_; rintro e w7 ⟨rfl, hb7⟩)
          | (go_at_call 51; refine QQ.out.mono ?_; rintro e w7 ⟨rfl, hb7⟩)
        have hbc := bcellK hb7
        refine hK _ _ ⟨(hbc.1 _ _ hgh6).trans hS.1, (hbc.1 _ _ hgh6).trans hS.2.1, (hbc.1 _ _ hw6).trans hS.2.2.1, (hbc.1 _ _ hw6).trans hS.2.2.2.1, (hbc.1 _ _ hw6).trans hS.2.2.2.2.1, (hbc.1 _ _ hw6).trans hS.2.2.2.2.2.1, (hbc.1 _ _ hw6).trans hS.2.2.2.2.2.2⟩ ?_
        clear hK K hS hbc
        try simp only [Act.put, List.setIfInBounds_toArray, List.set_cons_zero, List.set_cons_succ]
        refine wpOrd_nil ?_
        simp only [List.drop_succ_cons, List.drop_zero]
        go_wp2_with (first
          | (refine wpList_one rfl 38 60 _ rfl o.cells.toArray rfl (q7 _) ?_)
          | (at_builtin; refine wpList_append_lies _ rfl _ _ 38 rfl W4.heap.size 60 i0 (.agg zOgC.toArray) 36 64 Tryz.underlying38 hi hz0 hz1 hz2 rfl (by decide) _ _ _ rfl ((World.ownsRow.kept hown6 (grown_below' hb7 none) (Classical.em _)).alloc _) ⟨w7.heap.size, 0, none⟩ 1 1 o.cells rfl (og_len Q5'.out) (cells_row (Row.new w7 _ _)) (og_one o) (by decide) (by unfold maxLen; omega) (by omega) (by have := hB6.size; have := hb7.size; rw [World.size_alloc]; omega) _ rfl ?_; intro g1 cap1 w8 hown8 hgr hat hlt8))
        go_roundg (gk - 1)
        case measure => omega
        case rel =>
          refine ⟨k + 1, by first | rfl | go_num, by omega, ?_, ?_⟩
          · have h7 := hB6.trans (hb7.mono hB6.size)
            exact (h7.alloc h7.size _).grown hgr (by have := h7.size; rw [World.size_alloc]; omega) (fun r e => (hown6.lt r e).1)
          · unfold ownO
            rw [HSU.out, List.length_append, openTo_length, List.flatMap_append]
            simpa using hown8
    · obtain rfl : k = bits.length := by omega
      rw [show ownO W4.heap.size wr u4 (openTo t bits bits.length) = wr.ownsRow W4.heap.size 60 36 u4 bits.length ((openTo t bits bits.length).flatMap Og.cells) by unfold ownO; rw [openTo_length]] at hown
      have hres : SlG 36 Og.cells wr wr.heap.size u4 (openTo t bits bits.length) := own_slM hown (fun x hx => by
        obtain ⟨j, hj, rfl⟩ := List.mem_map.1 hx
        have hj := List.mem_range.1 hj
        exact og_len (Q5.out j _ (Q6.out j hj) hj)) (openTo_length t bits bits.length).symm (by rw [openTo_length]; omega)
      have HRES := Lib.hid hres
      clear hres hown
      go_wp2_with fail
      go_ret2
      exact ⟨_, rfl, hB.trans ((hb4.trans (hBr.mono hz4)).mono hB.size), HRES.out⟩
set_option maxRecDepth 100000 in
set_option maxHeartbeats 4000000 in
theorem open_any (t : Tn) (x : TnA) (bits : List Int) (v : Value) (w : World) (h : TnS w w.heap.size x t) (hb : SlI w w.heap.size v bits) (h64 : ∀ i, i < t.s.length → (t.s.getD i default).length = 64) :
    Calls Tryz.prog 16 #[.agg (x.cells t).toArray, v] w fun e w' => ∃ v, e = .returned (.tuple #[v, .int .i64 (openE t bits)]) ∧ Below w.heap.size w w' ∧ SlG 36 Og.cells w' w'.heap.size v (openC t bits) := by
  obtain ⟨_, A, c, rfl, _⟩ := id hb
  have hE : openE t bits = if rightB t bits.length then (if bits.all bitB then 0 else 1) else 140 := rfl
  have hC : openC t bits = if openE t bits = 0 then openTo t bits bits.length else [] := rfl
  cases hr : rightB t bits.length with
  | true =>
    cases hbit : bits.all bitB with
    | true =>
      rw [hr, hbit] at hE
      simp only [if_true] at hE
      rw [hC, hE, if_pos rfl]
      exact open_main t x bits A c w h hb h64 hr hbit
    | false =>
      rw [hr, hbit] at hE
      simp only [if_true, Bool.false_eq_true, if_false] at hE
      rw [hC, hE, if_neg (by omega)]
      have hB := below_alloc' w (.cells (x.cells t).toArray 27)
      have r0 := Row.new w 27 (x.cells t)
      have h2 := h.below hB
      have hb2 := hb.below hB
      obtain ⟨W, hW⟩ : ∃ W, w.alloc (.cells (x.cells t).toArray 27) = W := ⟨_, rfl⟩
      replace r0 : Row W w.heap.size 27 (x.cells t) := hW ▸ r0
      rw [hW] at hB h2 hb2
      have q1 := right_any t x bits.length W (h2.mono hB.size)
      rw [hr] at q1
      have q2 := fun (w' : World) (hbb : Below W.heap.size W w') => binary_any bits _ w' ((hb2.belowN hbb hB.size).mono (Nat.le_trans hB.size hbb.size))
      rw [hbit] at q2
      obtain ⟨al, cl, ar, cr, arl, crl, arr, crr, at_, ct⟩ := x
      unfold TnA.cells at r0 hW q1 ⊢
      simp only at r0 hW q1 ⊢
      replace hW : w.alloc (.cells #[.slice al t.l.length cl, .slice ar t.r.length cr, .slice arl t.rl.length crl, .slice arr t.rr.length crr, .slice at_ t.s.length ct] 27) = W := hW
      have c0 : W.cell? ⟨w.heap.size, 0, none⟩ = some _ := r0.cell 0
      have c1 : W.cell? ⟨w.heap.size, 1, none⟩ = some _ := r0.cell 1
      have c2 : W.cell? ⟨w.heap.size, 2, none⟩ = some _ := r0.cell 2
      have c3 : W.cell? ⟨w.heap.size, 3, none⟩ = some _ := r0.cell 3
      have c4 : W.cell? ⟨w.heap.size, 4, none⟩ = some _ := r0.cell 4
      have Q1 := Lib.hid q1
      have Q2 := Lib.hid q2
      clear q1 q2 hr hbit h hb h64 h2 hb2 hE hC r0
      go_enter Tryz.func16, Tryz.ntmps16
      go_upto_region 1 with fail
      try rw [hW]
      clear hW
      go_wp2_with (first
        | (go_at_call 24; (with_reducible refine Q1.out.mono ?_); rintro e w1 ⟨rfl, hb1⟩)
        | (go_at_call 35; (with_reducible refine (Q2.out _ hb1).mono ?_); rintro e w2 ⟨rfl, hb2⟩; replace hb2 := hb1.trans (hb2.mono hb1.size)))
      go_ret2
      exact ⟨_, rfl, hB.trans (hb2.mono hB.size), SlG.nil_ _ _⟩
  | false =>
    rw [hr] at hE
    simp only [Bool.false_eq_true, if_false] at hE
    rw [hC, hE, if_neg (by omega)]
    have hB := below_alloc' w (.cells (x.cells t).toArray 27)
    have r0 := Row.new w 27 (x.cells t)
    have h2 := h.below hB
    obtain ⟨W, hW⟩ : ∃ W, w.alloc (.cells (x.cells t).toArray 27) = W := ⟨_, rfl⟩
    replace r0 : Row W w.heap.size 27 (x.cells t) := hW ▸ r0
    rw [hW] at hB h2
    have q1 := right_any t x bits.length W (h2.mono hB.size)
    rw [hr] at q1
    obtain ⟨al, cl, ar, cr, arl, crl, arr, crr, at_, ct⟩ := x
    unfold TnA.cells at r0 hW q1 ⊢
    simp only at r0 hW q1 ⊢
    replace hW : w.alloc (.cells #[.slice al t.l.length cl, .slice ar t.r.length cr, .slice arl t.rl.length crl, .slice arr t.rr.length crr, .slice at_ t.s.length ct] 27) = W := hW
    have c0 : W.cell? ⟨w.heap.size, 0, none⟩ = some _ := r0.cell 0
    have c1 : W.cell? ⟨w.heap.size, 1, none⟩ = some _ := r0.cell 1
    have c2 : W.cell? ⟨w.heap.size, 2, none⟩ = some _ := r0.cell 2
    have c3 : W.cell? ⟨w.heap.size, 3, none⟩ = some _ := r0.cell 3
    have c4 : W.cell? ⟨w.heap.size, 4, none⟩ = some _ := r0.cell 4
    have Q1 := Lib.hid q1
    clear q1 hr h hb h64 h2 hE hC r0
    go_enter Tryz.func16, Tryz.ntmps16
    go_upto_region 1 with fail
    try rw [hW]
    clear hW
    go_wp2_with (go_at_call 24; (with_reducible refine Q1.out.mono ?_); rintro e w1 ⟨rfl, hb1⟩)
    go_ret2
    exact ⟨_, rfl, hB.trans (hb1.mono hB.size), SlG.nil_ _ _⟩
end Go.Proofs.YthboebhghaabnaaGreatDoor

set_option linter.unusedSimpArgs false
set_option linter.unusedVariables false
namespace Go.Proofs.YthboebhghaabnaaGreatDoor
open Go.RowKit Go.MapKept Fk Sha
/-! A set of pairs of integers as a map to booleans, all true, that the call itself made. -/
def pv (p : Int × Int) : Value := .agg #[.int .i64 p.1, .int .i64 p.2]
theorem pv_inj {p q : Int × Int} (h : pv p = pv q) : p = q := by
  obtain ⟨a, b⟩ := p
  obtain ⟨c, d⟩ := q
  unfold pv at h
  injection h with h
  have h := congrArg Array.toList h
  injection h with h1 h2
  injection h2 with h2 _
  injection h1 with _ h1
  injection h2 with _ h2
  exact Prod.ext h1 h2
theorem run2 (p q : Int × Int) (w : World) : (Op.equalIn 10000 84 (pv p) (pv q)).run Tryz.prog w = .ok (decide (p = q)) w := by
  have u3 := Tryz.underlying3
  have a3 := Tryz.isAgg3
  have z3 := Tryz.sizeOf3
  obtain ⟨a, b⟩ := p
  obtain ⟨c, d⟩ := q
  unfold pv
  rw [show (10000 : Nat) = 9999 + 1 from rfl, Op.equalIn]
  simp only [Sem.run_bind, run_underlying Tryz.underlying84, Result.andThen_ok]
  simp only [Std.Legacy.Range.forIn_eq_forIn_range', Std.Legacy.Range.size, Nat.sub_zero, Nat.add_sub_cancel, Nat.div_one, List.range'_succ, List.range'_zero, List.forIn_cons, List.forIn_nil]
  go_simp
  by_cases h1 : a = c <;> by_cases h2 : b = d <;> simp [h1, h2]
theorem ask_spec (x : Int × Int) (w : World) : ∀ (l : List MapEntry) (i : Nat), (∀ e ∈ l, ∃ p, e.key = pv p) →
    ((∀ e ∈ l, e.key ≠ pv x) ∧ (Instr.findAsking 84 (pv x) l i).run Tryz.prog w = .ok none w) ∨ (∃ j e, l[j]? = some e ∧ e.key = pv x ∧ (Instr.findAsking 84 (pv x) l i).run Tryz.prog w = .ok (some (i + j, e.val)) w)
  | [], i, _ => .inl ⟨by simp, by simp [Instr.findAsking]⟩
  | e :: l, i, h => by
    obtain ⟨p, hp⟩ := h e (by simp)
    have hr : (Op.equal 84 (pv x) e.key).run Tryz.prog w = .ok (decide (x = p)) w := by rw [hp]; exact run2 x p w
    by_cases hx : x = p
    · rw [decide_eq_true hx] at hr
      exact .inr ⟨0, e, rfl, by rw [hp, hx], by simp [Instr.findAsking, hr]⟩
    · rw [decide_eq_false hx] at hr
      have hne : e.key ≠ pv x := fun e2 => hx (pv_inj (by rw [← e2, hp]))
      rcases ask_spec x w l (i + 1) (fun y hy => h y (by simp [hy])) with ⟨h1, h2⟩ | ⟨j, y, h1, h2, h3⟩
      · exact .inl ⟨fun y hy => by rcases List.mem_cons.1 hy with rfl | hy; exact hne; exact h1 y hy, by simp [Instr.findAsking, hr, h2]⟩
      · exact .inr ⟨j + 1, y, by simpa using h1, h2, by simp [Instr.findAsking, hr, h3]; omega⟩
theorem find_spec (x : Int × Int) (w : World) (l : List MapEntry) (h : ∀ e ∈ l, ∃ p, e.key = pv p) :
    ((∀ e ∈ l, e.key ≠ pv x) ∧ (Instr.findKey 84 (pv x) l).run Tryz.prog w = .ok none w) ∨ (∃ j e, l[j]? = some e ∧ e.key = pv x ∧ (Instr.findKey 84 (pv x) l).run Tryz.prog w = .ok (some (j, e.val)) w) := by
  have hf : (Instr.findKey 84 (pv x) l).run Tryz.prog w = (Instr.findAsking 84 (pv x) l 0).run Tryz.prog w := by
    cases l with
    | nil => simp [Instr.findKey, Instr.findNow, Instr.findAsking, run_underlying Tryz.underlying84]
    | cons e l => simp [Instr.findKey, Instr.findNow, Instr.sameNow, run_underlying Tryz.underlying84]
  rw [hf]
  rcases ask_spec x w l 0 h with ⟨h1, h2⟩ | ⟨j, y, h1, h2, h3⟩
  · exact .inl ⟨h1, h2⟩
  · exact .inr ⟨j, y, h1, h2, by simpa using h3⟩
theorem check_pv (e : Bool) (a b : Int) (w : World) : (Instr.checkKey e 10000 84 (.agg #[.int .i64 a, .int .i64 b])).run Tryz.prog w = .ok () w := by
  cases e <;> kernel_rfl
def SetP (w : World) (b : Nat) (l : List (Int × Int)) : Prop :=
  ∃ es clock, w.heap[b]? = some (.map es clock) ∧ es.toList.map (fun e => e.key) = l.map pv ∧ ∀ e ∈ es.toList, e.val = .bool true
theorem SetP.keep {w w' : World} {b : Nat} {l : List (Int × Int)} (h : SetP w b l) (hk : w'.heap[b]? = w.heap[b]?) : SetP w' b l := by
  obtain ⟨es, c, h1, h2, h3⟩ := h
  exact ⟨es, c, hk.trans h1, h2, h3⟩
theorem SetP.made (w : World) : SetP (w.alloc (.map #[] 0)) w.heap.size [] := ⟨#[], 0, World.alloc_heap_new w _, rfl, by simp⟩
section
variable {w : World} {b : Nat} {l : List (Int × Int)}
theorem keys_pv {es : Array MapEntry} (h : es.toList.map (fun e => e.key) = l.map pv) : ∀ x ∈ es.toList, ∃ p, x.key = pv p := by
  intro x hx
  have : x.key ∈ es.toList.map (fun e => e.key) := List.mem_map.2 ⟨x, hx, rfl⟩
  rw [h] at this
  obtain ⟨y, _, e⟩ := List.mem_map.1 this
  exact ⟨y, e.symm⟩
theorem mem_pv {es : Array MapEntry} (h : es.toList.map (fun e => e.key) = l.map pv) (x : Int × Int) : x ∈ l ↔ ∃ y ∈ es.toList, y.key = pv x := by
  constructor
  · intro hx
    have : pv x ∈ es.toList.map (fun e => e.key) := by rw [h]; exact List.mem_map.2 ⟨x, hx, rfl⟩
    obtain ⟨y, hy, e⟩ := List.mem_map.1 this
    exact ⟨y, hy, e⟩
  · rintro ⟨y, hy, e⟩
    have : y.key ∈ l.map pv := by rw [← h]; exact List.mem_map.2 ⟨y, hy, rfl⟩
    rw [e] at this
    obtain ⟨z, hz, e2⟩ := List.mem_map.1 this
    exact pv_inj e2 ▸ hz
theorem zero_bool (w : World) : (zeroValue 4).run Tryz.prog w = .ok (.bool false) w := by kernel_rfl
theorem SetP.look (h : SetP w b l) (x y : Int) : (Instr.lookup 110 (.map (some b)) (.agg #[.int .i64 x, .int .i64 y]) false).run Tryz.prog w = .ok (.bool (decide ((x, y) ∈ l))) w := by
  obtain ⟨es, c, hb, hl, hv⟩ := h
  have hm := mem_pv hl (x, y)
  rcases find_spec (x, y) w es.toList (keys_pv hl) with ⟨h1, h2⟩ | ⟨j, z, h1, h2, h3⟩
  · have hd : decide ((x, y) ∈ l) = false := decide_eq_false fun hx => by
      obtain ⟨z, hz, e⟩ := hm.1 hx
      exact h1 z hz e
    have h2' : (Instr.findKey 84 (.agg #[.int .i64 x, .int .i64 y]) es.toList).run Tryz.prog w = .ok none w := h2
    rw [hd]
    simp [Instr.lookup, run_underlying Tryz.underlying110, MapKept.run_getObj_map hb, check_pv, h2', zero_bool, Result.andThen]
  · have hz : z ∈ es.toList := List.mem_of_getElem? h1
    have hd : decide ((x, y) ∈ l) = true := decide_eq_true (hm.2 ⟨z, hz, h2⟩)
    have h3' : (Instr.findKey 84 (.agg #[.int .i64 x, .int .i64 y]) es.toList).run Tryz.prog w = .ok (some (j, z.val)) w := h3
    rw [hd]
    simp [Instr.lookup, run_underlying Tryz.underlying110, MapKept.run_getObj_map hb, check_pv, h3', hv z hz, Result.andThen]
theorem SetP.put (h : SetP w b l) {x y : Int} (hx : (x, y) ∉ l) :
    ∃ w', (Instr.mapUpdate 110 (.map (some b)) (.agg #[.int .i64 x, .int .i64 y]) (.bool true)).run Tryz.prog w = .ok () w' ∧ SetP w' b (l ++ [(x, y)]) ∧ w.grownBy w' (some b) := by
  obtain ⟨es, c, hb, hl, hv⟩ := h
  have hm := mem_pv hl (x, y)
  rcases find_spec (x, y) w es.toList (keys_pv hl) with ⟨h1, h2⟩ | ⟨j, z, h1, h2, h3⟩
  · have h2' : (Instr.findKey 84 (.agg #[.int .i64 x, .int .i64 y]) es.toList).run Tryz.prog w = .ok none w := h2
    refine ⟨{ w with heap := w.heap.setIfInBounds b (.map (es.push { key := .agg #[.int .i64 x, .int .i64 y], val := .bool true, born := c }) (c + 1)) }, ?_, ?_, ?_⟩
    · simp [Instr.mapUpdate, run_underlying Tryz.underlying110, MapKept.run_getObj_map hb, check_pv, h2', MapKept.run_setObj_map _ hb, Result.andThen]
    · refine ⟨_, _, (heap_set hb).1, ?_, ?_⟩
      · simp [hl, pv]
      · intro z hz
        simp at hz
        rcases hz with hz | rfl
        · exact hv z (by simpa using hz)
        · rfl
    · exact ⟨rfl, rfl, rfl, by simp, fun i _ hi => (heap_set hb).2 i (fun e => hi (by rw [e]))⟩
  · exact absurd (hm.2 ⟨z, List.mem_of_getElem? h1, h2⟩) hx
end
end Go.Proofs.YthboebhghaabnaaGreatDoor

set_option linter.unusedSimpArgs false
set_option linter.unusedVariables false
namespace Go.Proofs.YthboebhghaabnaaGreatDoor
open Go.RowKit Fk Sha
/-! different[[2]int]: all pairs of a list are different. -/
def encPr (p : Int × Int) : List Value := [.int .i64 p.1, .int .i64 p.2]
set_option maxRecDepth 100000 in
theorem always_any (a b : Int) (w : World) : Calls Tryz.prog 37 #[.agg #[.int .i64 a, .int .i64 b]] w fun e w' => e = .returned (.bool true) ∧ Below w.heap.size w w' := by
  have hB := fun (o : Obj) => below_alloc' w o
  go_enter Tryz.func37, Tryz.ntmps37
  go_wp2_with fail
  go_ret
  exact ⟨rfl, hB _⟩
theorem nodup_met {l : List (Int × Int)} {k : Nat} (hk : k < l.length) (h : l.getD k default ∈ l.take k) : decide l.Nodup = false := by
  rw [decide_eq_false_iff_not]
  intro hn
  have h2 : (l.take (k + 1)).Nodup := (List.take_sublist _ _).nodup hn
  rw [List.take_add_one, List.getElem?_eq_getElem hk] at h2
  rw [getD_eq_getElem' hk] at h
  simp only [Option.toList_some] at h2
  rw [List.nodup_append] at h2
  exact h2.2.2 _ h _ (List.mem_singleton.2 rfl) rfl
theorem take_snocP {l : List (Int × Int)} {k : Nat} (h : k < l.length) : l.take (k + 1) = l.take k ++ [l.getD k default] := by
  rw [List.take_add_one, List.getElem?_eq_getElem h, getD_eq_getElem' h]; rfl
set_option maxRecDepth 100000 in
set_option maxHeartbeats 4000000 in
theorem diffP_any (l : List (Int × Int)) (v : Value) (w : World) (hl : SlG 2 encPr w w.heap.size v l) :
    Calls Tryz.prog 36 #[v, .func (Fn.func 37) #[] #[]] w fun e w' => e = .returned (.bool (decide l.Nodup)) ∧ Below w.heap.size w w' := by
  obtain ⟨_, A, c, rfl, _⟩ := id hl
  have HL := Lib.hid hl
  have hmm := @run_makeMap Tryz.prog
  have hB := below_alloc' w (.map #[] 0)
  have hS := SetP.made w
  have hlen := hl.1
  clear hl
  go_enter Tryz.func36, Tryz.ntmps36
  go_wp2_with fail
  go_loopg [11] l.length (fun g iv wr => ∃ k : Nat, iv = .int .i64 k ∧ k + g = l.length ∧ Below w.heap.size w wr ∧ w.heap.size < wr.heap.size ∧ SetP wr w.heap.size (l.take k) ∧ (l.take k).Nodup)
  case atStart => exact ⟨0, rfl, by omega, hB, by simp, hS, by simp⟩
  case round =>
    clear hB hS
    obtain ⟨k, rfl, hkg, hBr, hzr, hS, hnd⟩ := hrel
    by_cases hlt : k < l.length
    · obtain ⟨xb, off, ha, hbb, e0⟩ := sl_at (HL.out.below hBr) hlt
      subst ha
      have d0 := e0 0 (by omega)
      have d1 := e0 1 (by omega)
      have hmet := nodup_met hlt
      have hsn := take_snocP hlt
      obtain ⟨x, hx⟩ : ∃ x, l.getD k default = x := ⟨_, rfl⟩
      rw [hx] at d0 d1 hmet hsn
      obtain ⟨x, y⟩ := x
      simp only [encPr, List.getD_cons_zero, List.getD_cons_succ, Nat.add_zero] at d0 d1
      have s1 : (0 : Int) ≤ k := by omega
      have s2 : (k : Int) < l.length := by omega
      have hB5 := hBr.alloc hBr.size (.cells #[.int .i64 x, .int .i64 y] 84)
      have hS5 : SetP (wr.alloc (.cells #[.int .i64 x, .int .i64 y] 84)) w.heap.size (l.take k) := hS.keep (Below.heap_alloc wr _ _ hzr)
      have hz5 : w.heap.size < (wr.alloc (.cells #[.int .i64 x, .int .i64 y] 84)).heap.size := by simp; omega
      have r5 := Row.new wr 84 [.int .i64 x, .int .i64 y]
      clear e0
      go_upto_region 5 with fail
      obtain ⟨W5, hW5⟩ : ∃ W5, wr.alloc (.cells #[.int .i64 x, .int .i64 y] 84) = W5 := ⟨_, rfl⟩
      replace r5 : Row W5 wr.heap.size 84 [.int .i64 x, .int .i64 y] := hW5 ▸ r5
      rw [hW5] at hB5 hS5 hz5 ⊢
      clear hW5 d0 d1 hS
      have hgne : wr.heap.size ≠ w.heap.size := by omega
      generalize wr.heap.size = gq at *
      have c0 : W5.cell? ⟨gq, 0, none⟩ = some (.int .i64 x) := r5.cell 0
      have c1 : W5.cell? ⟨gq, 1, none⟩ = some (.int .i64 y) := r5.cell 1
      have hlook := hS5.look x y
      have hgql := r5.lt
      by_cases hm : (x, y) ∈ l.take k
      · rw [decide_eq_true hm] at hlook
        have HDF := Lib.hid (hmet hm)
        clear hmet hsn hnd hm hS5
        go_wp2_with fail
        go_ret
        exact ⟨by rw [HDF.out]; rfl, hB5⟩
      · rw [decide_eq_false hm] at hlook
        have hal := fun W => always_any x y W
        have HAL := Lib.hid hal
        have key : ∀ W6, Below W5.heap.size W5 W6 → ∃ w', (Instr.mapUpdate 110 (.map (some w.heap.size)) (.agg #[.int .i64 x, .int .i64 y]) (.bool true)).run Tryz.prog W6 = .ok () w' ∧ (Below w.heap.size w w' ∧ w.heap.size < w'.heap.size ∧ SetP w' w.heap.size (l.take (k + 1)) ∧ (l.take (k + 1)).Nodup) := by
          intro W6 hb6
          have hS6 : SetP W6 w.heap.size (l.take k) := hS5.keep (hb6.block _ hz5)
          obtain ⟨w2, hput, hS2, hgr⟩ := hS6.put hm
          have hs6 := hb6.size
          refine ⟨w2, hput, (hB5.trans (hb6.mono hB5.size)).grown hgr (by omega) (fun r e => by injection e with e; omega), Nat.lt_of_lt_of_le (by omega) hgr.size, by rw [hsn]; exact hS2, ?_⟩
          rw [hsn, List.nodup_append]
          exact ⟨hnd, by simp, fun a h1 b h2 e => by rw [List.mem_singleton] at h2; exact hm (h2 ▸ e ▸ h1)⟩
        have KEY := Lib.hid key
        clear key hmet hsn hnd hm hal hS5
        go_upto_region 7 with (go_at_call 37; (with_reducible refine (HAL.out _).mono ?_); rintro e w6 ⟨rfl, hb6⟩)
        obtain ⟨w7, hput, fin⟩ := KEY.out _ hb6
        have FIN := Lib.hid fin
        have g0 : w6.cell? ⟨gq, 0, none⟩ = _ := (hb6.cell (p := ⟨gq, 0, none⟩) hgql).trans c0
        have g1 : w6.cell? ⟨gq, 1, none⟩ = _ := (hb6.cell (p := ⟨gq, 1, none⟩) hgql).trans c1
        clear fin KEY hlook c0 c1
        go_wp2_with fail
        go_roundg (gk - 1)
        case measure => omega
        case rel => exact ⟨k + 1, by first | rfl | go_num, by omega, FIN.out⟩
    · obtain rfl : k = l.length := by omega
      have hd : decide l.Nodup = true := by
        rw [List.take_length] at hnd
        exact decide_eq_true hnd
      have HDF := Lib.hid hd
      clear hd
      go_wp2_with fail
      go_ret
      exact ⟨by rw [HDF.out]; rfl, hBr⟩
end Go.Proofs.YthboebhghaabnaaGreatDoor

set_option linter.unusedSimpArgs false
namespace Go.Proofs.YthboebhghaabnaaGreatDoor
open Go.RowKit Go.Shelf Fk
theorem wide_fn' (f : FuncId) : Fence.wide.fn f = True := rfl

set_option maxHeartbeats 400000 in
theorem more_any (key : Int) (r : Tr) (w : World) :
    Calls Tryz.prog 47 #[.int .i64 key, r.val] w fun e w' => e = .returned (.func (.func 71) #[] #[.pointer (some ⟨w.heap.size + 1, 0, none⟩), .pointer (some ⟨w.heap.size, 0, none⟩)]) ∧
      (w.alloc (.cells #[.int .i64 key] 3)).alloc (.cells r.cells.toArray 56) = w' := by
  unfold Tr.val Tr.cells
  go_enter Tryz.func47, Tryz.ntmps47
  go_wp2
  go_ret
  exact ⟨rfl, rfl⟩
end Go.Proofs.YthboebhghaabnaaGreatDoor

set_option linter.unusedSimpArgs false
namespace Go.Proofs.YthboebhghaabnaaGreatDoor
open Go.RowKit Go.Shelf Fk
attribute [local go_sem] Oper.semAt_some wide_fn'
def inR (s : Se) : Prop := ∀ k, k < 3 → (0 ≤ (s.get k).a ∧ (s.get k).a < 2147483579) ∧ (0 ≤ (s.get k).b ∧ (s.get k).b < 2147483579)
theorem Se.val_eq (s : Se) : s.val = .agg s.cells.toArray := rfl

set_option maxRecDepth 100000 in
set_option maxHeartbeats 2000000 in
theorem changed_more (s : Se) (key : Int) (r : Tr) (br bk ab : Nat) (w : World) (hs : inR s) (hr : Row w br 56 r.cells) (hkey : Boxed w bk 3 (.int .i64 key))
    (hab : Boxed w ab 96 (.func (.func 71) #[] #[.pointer (some ⟨br, 0, none⟩), .pointer (some ⟨bk, 0, none⟩)])) :
    Calls Tryz.prog 46 #[s.val, .slice (some ⟨ab, 0, none⟩) 1 1] w fun e w' => e = .returned (s.map (moreC key r)).val ∧ Below w.heap.size w w' := by
  have hlr := Row.lt hr
  have hlk := Boxed.lt hkey
  have hla := Boxed.lt hab
  refine (callsIn_wide (n := 3)).1 ?_
  refine callsIn_of_wp_marks Tryz.func46 rfl trivial ?_ rfl
  simp only [Tryz.ntmps46, List.size_toArray, List.length_cons, List.length_nil, Nat.reduceAdd, Nat.reduceSub, Array.replicate_succ, Array.replicate_zero, List.push_toArray, List.append_toArray, List.nil_append, List.cons_append]
  unfold Se.val
  gi_wp2_with (gi_at_call 70; refine (callsIn_wide.2 (ciphers_any _ _)).mono ?_; rintro e w' ⟨rfl, rfl⟩)
  obtain ⟨W0, hW0⟩ : ∃ W0 : World, ((((w.alloc (Obj.cells #[Value.int IntKind.i64 s.x.a, Value.int IntKind.i64 s.x.b, Value.int IntKind.i64 s.y.a, Value.int IntKind.i64 s.y.b, Value.int IntKind.i64 s.z.a, Value.int IntKind.i64 s.z.b] 45)).alloc
        (Obj.cells #[Value.slice (some { block := ab, off := 0 }) 1 1] 118)).alloc
        (Obj.cells #[Value.int IntKind.i64 0, Value.int IntKind.i64 0, Value.int IntKind.i64 0, Value.int IntKind.i64 0, Value.int IntKind.i64 0, Value.int IntKind.i64 0] 45)).alloc
        (Obj.cells #[Value.pointer (some { block := w.heap.size, off := 0 })] 116)) = W0 := ⟨_, rfl⟩
  have hz : W0.heap.size = w.heap.size + 4 := by rw [← hW0]; simp
  have hR : RowS W0 w.heap.size s := by rw [← hW0]; exact (((Row.new w 45 s.cells).alloc _).alloc _).alloc _
  have hY : Boxed W0 (w.heap.size + 1) 118 (.slice (some ⟨ab, 0, none⟩) 1 1) := by rw [← hW0]; exact ((boxed_at (by simp) _ _).alloc _).alloc _
  have hO : RowS W0 (w.heap.size + 2) default := by rw [← hW0]; exact (row_at (by simp) _ (default : Se).cells).alloc _
  have hP : Boxed W0 (w.heap.size + 3) 116 (.pointer (some ⟨w.heap.size, 0, none⟩)) := by rw [← hW0]; exact boxed_at (by simp) _ _
  have hBW : Below w.heap.size w W0 := by rw [← hW0]; exact ((((Below.refl _ w).alloc (Nat.le_refl _) _).alloc (by simp) _).alloc (by simp; omega) _).alloc (by simp; omega) _
  rw [hW0]
  clear hW0
  refine wpIn_rangeL (w := W0) rfl (by omega) (gf := 85) (lb := #[.pointer (some ⟨w.heap.size + 3, 0, none⟩)]) rfl trivial (enters_of Tryz.func85 (by kernel_rfl) rfl)
    (ciphers_seq w.heap.size (w.heap.size + 3) _ 2 (by omega))
    (fun W hW => (hW.block _ (by omega)).trans hP) (by omega) (fun h => h) (fun h => h)
    (fun v hv => by obtain ⟨p, _, rfl⟩ := List.mem_map.1 hv; rfl)
    (fun k W => RowS W w.heap.size (s.mapTo (moreC key r) k) ∧ Boxed W (w.heap.size + 1) 118 (.slice (some ⟨ab, 0, none⟩) 1 1) ∧ RowS W (w.heap.size + 2) default ∧ Below w.heap.size w W)
    (fun _ _ _ => False)
    (fun k W W' row ⟨h1, h2, h3, h4⟩ hg hr => ⟨h1.kept hg (fun e => by have := (hr _ e.symm).resolve_left (fun h => h); omega), h2.kept hg (fun e => by have := (hr _ e.symm).resolve_left (fun h => h); omega), h3.kept hg (fun e => by have := (hr _ e.symm).resolve_left (fun h => h); omega), h4.grown hg h4.size (fun r e => by have := (hr _ e).resolve_left (fun h => h); omega)⟩)
    (fun _ _ _ _ _ hs _ _ => hs.elim)
    ⟨hR, hY, hO, hBW⟩
    (fun k a' _ => k < 3 ∧ a' = { tmps := #[Value.agg #[Value.int IntKind.i64 s.x.a, Value.int IntKind.i64 s.x.b, Value.int IntKind.i64 s.y.a, Value.int IntKind.i64 s.y.b, Value.int IntKind.i64 s.z.a, Value.int IntKind.i64 s.z.b],
            Value.slice (some { block := ab, off := 0 }) 1 1, Value.pointer (some { block := w.heap.size, off := 0 }),
            Value.pointer (some { block := w.heap.size + 1, off := 0 }),
            Value.pointer (some { block := w.heap.size + 1 + 1, off := 0 }), .int .i64 (k : Int), .pointer (some ⟨w.heap.size, k * 2, none⟩), undef, undef,
            Value.func (Fn.func 85) #[] #[Value.pointer (some { block := w.heap.size + 1 + 1 + 1, off := 0 })], .int .i64 (k : Int), .pointer (some ⟨w.heap.size, k * 2, none⟩),
            undef, undef, undef, undef, undef, undef, undef, undef, undef, undef, undef, undef], defers := [] })
    (fun _ _ _ _ _ _ hs _ _ => hs) ?assign ?body ?done ?stop
  case assign =>
    intro l k v W K hI hv hsz hK
    obtain ⟨hk, rfl⟩ := ciVals_some hv
    clear hv
    unfold ciV
    gi_wp2
    exact hK _ _ (Kept.refl _ _) (SameOn.refl _ _) hI ⟨hk, rfl⟩
  case body =>
    rintro l k v a' W ⟨h1, h2, h3, h4⟩ ⟨hk, rfl⟩ hv hsz
    have c1 := h2.cell
    have c2 : W.cell? ⟨ab, 0, none⟩ = some (.func (.func 71) #[] #[.pointer (some ⟨br, 0, none⟩), .pointer (some ⟨bk, 0, none⟩)]) := Boxed.cell (show Boxed W ab _ _ from (h4.block ab hla).trans hab)
    have hr' : Row W br 56 r.cells := Row.keep hr (h4.block br hlr)
    have hk' : Boxed W bk 3 (.int .i64 key) := (h4.block bk hlk).trans hkey
    have hg := mapTo_get (moreC key r) s hk
    have hst := mapTo_set (moreC key r) s hk
    obtain ⟨i1, i2⟩ := hs k hk
    rw [← hg] at i1 i2 hst
    have hcall := more_in k hk (s.mapTo (moreC key r) k) r key w.heap.size br bk W h1 hr' hk' i1 i2
    rw [hst] at hcall
    have HC := Lib.hid hcall
    clear hcall hg hst hr' hk' i1 i2 hv
    gi_wp2
    refine wpIn_loop_rounds 2 ?_
    rw [roundsIn_succ]
    gi_wp2_with (gi_at_call 71; refine (callsIn_wide.2 HC.out).mono ?_; rintro e w' ⟨⟨v', rfl⟩, hr1, hr2⟩)
    rw [roundsIn_succ]
    gi_wp2
    refine ⟨Kept.grown hr2 (by omega) (by simp; omega) (by simp; omega), ?_, hr1, h2.kept hr2 (by simp), h3.kept hr2 (by simp), h4.grown hr2 h4.size (fun r e => by cases e; exact Nat.le_refl _)⟩
    intro rr hrr
    have h5 : rr = w.heap.size + 3 := hrr
    subst h5
    exact hr2.block _ (by omega) (by simp)
  case done =>
    rintro W ⟨h1, h2, h3, h4⟩ hsz hD
    rw [ciVals_length, Se.mapTo_three] at h1
    obtain ⟨t, ht⟩ : ∃ t, s.map (moreC key r) = t := ⟨_, rfl⟩
    rw [ht] at h1
    have HT := Lib.hid ht
    clear ht
    have c0 := Row.cell h1 0
    have c1 := Row.cell h1 1
    have c2 := Row.cell h1 2
    have c3 := Row.cell h1 3
    have c4 := Row.cell h1 4
    have c5 := Row.cell h1 5
    have f0 := Row.frozen h3 0
    have f1 := Row.frozen h3 1
    have f2 := Row.frozen h3 2
    have f3 := Row.frozen h3 3
    have f4 := Row.frozen h3 4
    have f5 := Row.frozen h3 5
    have e0 := Row.cell h3 0
    have e1 := Row.cell h3 1
    have e2 := Row.cell h3 2
    have e3 := Row.cell h3 3
    have e4 := Row.cell h3 4
    have e5 := Row.cell h3 5
    simp only [Se.cells, List.getElem?_cons_zero, List.getElem?_cons_succ] at c0 c1 c2 c3 c4 c5 e0 e1 e2 e3 e4 e5
    gi_wp2
    have h6 : RowS ((((((W.setCell ⟨w.heap.size + 1 + 1, 0, none⟩ (.int .i64 t.x.a)).setCell ⟨w.heap.size + 1 + 1, 1, none⟩ (.int .i64 t.x.b)).setCell ⟨w.heap.size + 1 + 1, 2, none⟩ (.int .i64 t.y.a)).setCell ⟨w.heap.size + 1 + 1, 3, none⟩ (.int .i64 t.y.b)).setCell ⟨w.heap.size + 1 + 1, 4, none⟩ (.int .i64 t.z.a)).setCell ⟨w.heap.size + 1 + 1, 5, none⟩ (.int .i64 t.z.b)) (w.heap.size + 1 + 1) t :=
      Row.store (Row.store (Row.store (Row.store (Row.store (Row.store h3 0 _) 1 _) 2 _) 3 _) 4 _) 5 _
    have hB6 : Below w.heap.size w ((((((W.setCell ⟨w.heap.size + 1 + 1, 0, none⟩ (.int .i64 t.x.a)).setCell ⟨w.heap.size + 1 + 1, 1, none⟩ (.int .i64 t.x.b)).setCell ⟨w.heap.size + 1 + 1, 2, none⟩ (.int .i64 t.y.a)).setCell ⟨w.heap.size + 1 + 1, 3, none⟩ (.int .i64 t.y.b)).setCell ⟨w.heap.size + 1 + 1, 4, none⟩ (.int .i64 t.z.a)).setCell ⟨w.heap.size + 1 + 1, 5, none⟩ (.int .i64 t.z.b)) :=
      (((((h4.setCell (by simp only []; omega) _).setCell (by simp only []; omega) _).setCell (by simp only []; omega) _).setCell (by simp only []; omega) _).setCell (by simp only []; omega) _).setCell (by simp only []; omega) _
    have hD6 : ((((((W.setCell ⟨w.heap.size + 1 + 1, 0, none⟩ (.int .i64 t.x.a)).setCell ⟨w.heap.size + 1 + 1, 1, none⟩ (.int .i64 t.x.b)).setCell ⟨w.heap.size + 1 + 1, 2, none⟩ (.int .i64 t.y.a)).setCell ⟨w.heap.size + 1 + 1, 3, none⟩ (.int .i64 t.y.b)).setCell ⟨w.heap.size + 1 + 1, 4, none⟩ (.int .i64 t.z.a)).setCell ⟨w.heap.size + 1 + 1, 5, none⟩ (.int .i64 t.z.b)).heap[W0.heap.size]? = some (.deferred (some [])) := by
      refine (Below.heap_setCell _ _ _ _ ?_).trans ((Below.heap_setCell _ _ _ _ ?_).trans ((Below.heap_setCell _ _ _ _ ?_).trans ((Below.heap_setCell _ _ _ _ ?_).trans ((Below.heap_setCell _ _ _ _ ?_).trans ((Below.heap_setCell _ _ _ _ ?_).trans hD))))) <;> (simp only []; omega)
    generalize ((((((W.setCell ⟨w.heap.size + 1 + 1, 0, none⟩ (.int .i64 t.x.a)).setCell ⟨w.heap.size + 1 + 1, 1, none⟩ (.int .i64 t.x.b)).setCell ⟨w.heap.size + 1 + 1, 2, none⟩ (.int .i64 t.y.a)).setCell ⟨w.heap.size + 1 + 1, 3, none⟩ (.int .i64 t.y.b)).setCell ⟨w.heap.size + 1 + 1, 4, none⟩ (.int .i64 t.z.a)).setCell ⟨w.heap.size + 1 + 1, 5, none⟩ (.int .i64 t.z.b)) = W6 at *
    refine ⟨by simp, .inl ⟨_, _, rfl, run_takeDeferred hD6, ?_⟩⟩
    have h7 := h6.kept (grownBy_putObj' _ W0.heap.size (.deferred none)) (by simp; omega)
    have d0 := Row.cell h7 0
    have d1 := Row.cell h7 1
    have d2 := Row.cell h7 2
    have d3 := Row.cell h7 3
    have d4 := Row.cell h7 4
    have d5 := Row.cell h7 5
    simp only [Se.cells, List.getElem?_cons_zero, List.getElem?_cons_succ] at d0 d1 d2 d3 d4 d5
    refine ⟨t.val, ?_, by rw [HT.out]; rfl, ?_⟩
    · simp [results, Tryz.f46, go_sem, d0, d1, d2, d3, d4, d5, Se.val]
    · exact hB6.grown (grownBy_putObj' _ W0.heap.size (.deferred none)) hB6.size (fun r e => by cases e; omega)
  case stop =>
    rintro c k W _ h _ _
    exact h.elim
end Go.Proofs.YthboebhghaabnaaGreatDoor

set_option linter.unusedSimpArgs false
set_option linter.unusedVariables false
namespace Go.Proofs.YthboebhghaabnaaGreatDoor
open Go.RowKit Go.Shelf Fk

theorem okC_bd {c : Ci} (h : okC c = true) : (0 ≤ c.a ∧ c.a < 2147483579) ∧ (0 ≤ c.b ∧ c.b < 2147483579) := by
  obtain ⟨h1, h2⟩ := okC_iff.1 h
  have a1 := vld_lo h1
  have a2 := vld_hi h1
  have a3 := vld_lo h2
  have a4 := vld_hi h2
  exact ⟨⟨by omega, a2⟩, by omega, a4⟩
theorem okS_inR {s : Se} (h : okS s = true) : inR s := fun k _ => okC_bd (okS_get h k)
/-- the six cells, one by one -/
theorem RowS.six {W : World} {b : Nat} {s : Se} (h : RowS W b s) : W.cell? ⟨b, 0, none⟩ = some (.int .i64 s.x.a) ∧ W.cell? ⟨b, 1, none⟩ = some (.int .i64 s.x.b) ∧ W.cell? ⟨b, 2, none⟩ = some (.int .i64 s.y.a) ∧
    W.cell? ⟨b, 3, none⟩ = some (.int .i64 s.y.b) ∧ W.cell? ⟨b, 4, none⟩ = some (.int .i64 s.z.a) ∧ W.cell? ⟨b, 5, none⟩ = some (.int .i64 s.z.b) :=
  ⟨Row.cell h 0, Row.cell h 1, Row.cell h 2, Row.cell h 3, Row.cell h 4, Row.cell h 5⟩
theorem RowS.free {W : World} {b : Nat} {s : Se} (h : RowS W b s) : W.frozen? ⟨b, 0, none⟩ = false ∧ W.frozen? ⟨b, 1, none⟩ = false ∧ W.frozen? ⟨b, 2, none⟩ = false ∧ W.frozen? ⟨b, 3, none⟩ = false ∧ W.frozen? ⟨b, 4, none⟩ = false ∧ W.frozen? ⟨b, 5, none⟩ = false :=
  ⟨Row.frozen h 0, Row.frozen h 1, Row.frozen h 2, Row.frozen h 3, Row.frozen h 4, Row.frozen h 5⟩
theorem RowT.three {W : World} {b : Nat} {ty : TypeId} {t : Tr} (h : Row W b ty t.cells) : W.cell? ⟨b, 0, none⟩ = some (.int .i64 t.p) ∧ W.cell? ⟨b, 1, none⟩ = some (.int .i64 t.q) ∧ W.cell? ⟨b, 2, none⟩ = some (.int .i64 t.r) :=
  ⟨Row.cell h 0, Row.cell h 1, Row.cell h 2⟩
theorem RowT.free {W : World} {b : Nat} {ty : TypeId} {t : Tr} (h : Row W b ty t.cells) : W.frozen? ⟨b, 0, none⟩ = false ∧ W.frozen? ⟨b, 1, none⟩ = false ∧ W.frozen? ⟨b, 2, none⟩ = false :=
  ⟨Row.frozen h 0, Row.frozen h 1, Row.frozen h 2⟩
end Go.Proofs.YthboebhghaabnaaGreatDoor

set_option linter.unusedSimpArgs false
set_option linter.unusedVariables false
namespace Go.Proofs.YthboebhghaabnaaGreatDoor
open Go.RowKit Go.Shelf Fk
theorem again_start (s : Se) (r : Tr) (w : World) :
    (RowS (((w.alloc (.cells s.cells.toArray 45)).alloc (.cells r.cells.toArray 56)).alloc (.cells (default : Se).cells.toArray 45)) w.heap.size s ∧
     Row (((w.alloc (.cells s.cells.toArray 45)).alloc (.cells r.cells.toArray 56)).alloc (.cells (default : Se).cells.toArray 45)) (w.heap.size + 1) 56 r.cells ∧
     RowS (((w.alloc (.cells s.cells.toArray 45)).alloc (.cells r.cells.toArray 56)).alloc (.cells (default : Se).cells.toArray 45)) (w.heap.size + 1 + 1) default ∧
     Below w.heap.size w (((w.alloc (.cells s.cells.toArray 45)).alloc (.cells r.cells.toArray 56)).alloc (.cells (default : Se).cells.toArray 45))) :=
  ⟨((Row.new w _ _).alloc _).alloc _, (row_at (by simp) _ _).alloc _, row_at (by simp) _ _, (((Below.refl _ w).alloc (Nat.le_refl _) _).alloc (by simp) _).alloc (by simp; omega) _⟩
/-- the world's own blocks, while others come -/
structure Ag (w : World) (s : Se) (r : Tr) (W : World) : Prop where
  s : RowS W w.heap.size s
  r : Row W (w.heap.size + 1) 56 r.cells
  o : RowS W (w.heap.size + 1 + 1) default
  b : Below w.heap.size w W
theorem Ag.below {w W W' : World} {s : Se} {r : Tr} (h : Ag w s r W) (hb : Below W.heap.size W W') : Ag w s r W' :=
  ⟨Row.keep h.s (hb.block _ (Row.lt h.s)), Row.keep h.r (hb.block _ (Row.lt h.r)), Row.keep h.o (hb.block _ (Row.lt h.o)), h.b.trans (hb.mono h.b.size)⟩
theorem Ag.start (s : Se) (r : Tr) (w : World) : Ag w s r (((w.alloc (.cells s.cells.toArray 45)).alloc (.cells r.cells.toArray 56)).alloc (.cells (default : Se).cells.toArray 45)) := by
  obtain ⟨a, b, c, d⟩ := again_start s r w
  exact ⟨a, b, c, d⟩
set_option maxRecDepth 100000 in
set_option maxHeartbeats 2000000 in
theorem again_no (key : Int) (s : Se) (r : Tr) (w : World) (hv : vld key = false) :
    Calls Tryz.prog 25 #[.int .i64 key, s.val, r.val] w fun e w' => e = .returned (.tuple #[(default : Se).val, .int .i64 90]) ∧ Below w.heap.size w w' := by
  have hA := Ag.start s r w
  unfold Se.val Tr.val
  go_enter Tryz.func25, Tryz.ntmps25
  go_wp2_with (go_at_call 22; refine (valid_any _ _).mono ?_; rintro e w1 ⟨rfl, rfl⟩)
  exact bodyPost_ret (v := .tuple #[.agg #[.int .i64 0, .int .i64 0, .int .i64 0, .int .i64 0, .int .i64 0, .int .i64 0], .int .i64 90]) (by simp [results, Tryz.results25, go_sem]) rfl ⟨rfl, hA.b⟩
set_option maxRecDepth 100000 in
set_option maxHeartbeats 2000000 in
theorem again_bad (key : Int) (s : Se) (r : Tr) (w : World) (hv : vld key = true) (hc : okS s = false) :
    Calls Tryz.prog 25 #[.int .i64 key, s.val, r.val] w fun e w' => e = .returned (.tuple #[(default : Se).val, .int .i64 100]) ∧ Below w.heap.size w w' := by
  have hch := fun w => echeck_any s w
  have e3 : chS s = 100 := by unfold chS; rw [hc]; rfl
  rw [e3] at hch
  have hA := fun (W : World) (hb : Below (((w.alloc (.cells s.cells.toArray 45)).alloc (.cells r.cells.toArray 56)).alloc (.cells (default : Se).cells.toArray 45)).heap.size (((w.alloc (.cells s.cells.toArray 45)).alloc (.cells r.cells.toArray 56)).alloc (.cells (default : Se).cells.toArray 45)) W) => (Ag.start s r w).below hb
  unfold Se.val at hch
  obtain ⟨D, hD⟩ : ∃ D : Se, (default : Se) = D := ⟨_, rfl⟩
  have HD := Lib.hid hD
  have HCH := Lib.hid hch
  have HA := Lib.hid hA
  clear e3 hch hA hD
  unfold Se.val Tr.val
  go_enter Tryz.func25, Tryz.ntmps25
  go_wp2_with (first
    | (go_at_call 22; refine (valid_any _ _).mono ?_; rintro e w1 ⟨rfl, rfl⟩)
    | (go_at_call 45; refine (HCH.out _).mono ?_; rintro e w1 ⟨rfl, hb⟩; replace hb := HA.out _ hb; have ho := hb.o; rw [HD.out] at ho; obtain ⟨q0, q1, q2, q3, q4, q5⟩ := ho.six; obtain ⟨f0, f1, f2, f3, f4, f5⟩ := ho.free))
  have h6 : RowS ((((((w1.setCell ⟨w.heap.size + 1 + 1, 0, none⟩ (.int .i64 D.x.a)).setCell ⟨w.heap.size + 1 + 1, 1, none⟩ (.int .i64 D.x.b)).setCell ⟨w.heap.size + 1 + 1, 2, none⟩ (.int .i64 D.y.a)).setCell ⟨w.heap.size + 1 + 1, 3, none⟩ (.int .i64 D.y.b)).setCell ⟨w.heap.size + 1 + 1, 4, none⟩ (.int .i64 D.z.a)).setCell ⟨w.heap.size + 1 + 1, 5, none⟩ (.int .i64 D.z.b)) (w.heap.size + 1 + 1) D := Row.store (Row.store (Row.store (Row.store (Row.store (Row.store ho 0 _) 1 _) 2 _) 3 _) 4 _) 5 _
  have hB6 : Below w.heap.size w ((((((w1.setCell ⟨w.heap.size + 1 + 1, 0, none⟩ (.int .i64 D.x.a)).setCell ⟨w.heap.size + 1 + 1, 1, none⟩ (.int .i64 D.x.b)).setCell ⟨w.heap.size + 1 + 1, 2, none⟩ (.int .i64 D.y.a)).setCell ⟨w.heap.size + 1 + 1, 3, none⟩ (.int .i64 D.y.b)).setCell ⟨w.heap.size + 1 + 1, 4, none⟩ (.int .i64 D.z.a)).setCell ⟨w.heap.size + 1 + 1, 5, none⟩ (.int .i64 D.z.b)) := (((((hb.b.setCell (by simp only []; omega) _).setCell (by simp only []; omega) _).setCell (by simp only []; omega) _).setCell (by simp only []; omega) _).setCell (by simp only []; omega) _).setCell (by simp only []; omega) _
  generalize ((((((w1.setCell ⟨w.heap.size + 1 + 1, 0, none⟩ (.int .i64 D.x.a)).setCell ⟨w.heap.size + 1 + 1, 1, none⟩ (.int .i64 D.x.b)).setCell ⟨w.heap.size + 1 + 1, 2, none⟩ (.int .i64 D.y.a)).setCell ⟨w.heap.size + 1 + 1, 3, none⟩ (.int .i64 D.y.b)).setCell ⟨w.heap.size + 1 + 1, 4, none⟩ (.int .i64 D.z.a)).setCell ⟨w.heap.size + 1 + 1, 5, none⟩ (.int .i64 D.z.b)) = W6 at *
  obtain ⟨p0, p1, p2, p3, p4, p5⟩ := h6.six
  exact bodyPost_ret (v := .tuple #[.agg #[.int .i64 D.x.a, .int .i64 D.x.b, .int .i64 D.y.a, .int .i64 D.y.b, .int .i64 D.z.a, .int .i64 D.z.b], .int .i64 100]) (by simp [results, Tryz.results25, go_sem, p0, p1, p2, p3, p4, p5]) rfl ⟨by rw [← HD.out], hB6⟩

set_option maxRecDepth 100000 in
set_option maxHeartbeats 2000000 in
theorem again_ok (key : Int) (s : Se) (r : Tr) (w : World) (hv : vld key = true) (hc : okS s = true) :
    Calls Tryz.prog 25 #[.int .i64 key, s.val, r.val] w fun e w' => e = .returned (.tuple #[(s.map (moreC key r)).val, .int .i64 0]) ∧ Below w.heap.size w w' := by
  have hch := fun w => echeck_any s w
  have e3 : chS s = 0 := by unfold chS; rw [hc]; rfl
  rw [e3] at hch
  have hin := okS_inR hc
  have hA := fun (W : World) (hb : Below (((w.alloc (.cells s.cells.toArray 45)).alloc (.cells r.cells.toArray 56)).alloc (.cells (default : Se).cells.toArray 45)).heap.size (((w.alloc (.cells s.cells.toArray 45)).alloc (.cells r.cells.toArray 56)).alloc (.cells (default : Se).cells.toArray 45)) W) => (Ag.start s r w).below hb
  have hcall := fun (br bk ab : Nat) (W : World) => changed_more s key r br bk ab W hin
  obtain ⟨t, ht⟩ : ∃ t : Se, s.map (moreC key r) = t := ⟨_, rfl⟩
  rw [ht] at hcall ⊢
  unfold Se.val at hch hcall
  have HC := Lib.hid hcall
  have HCH := Lib.hid hch
  have HA := Lib.hid hA
  clear e3 hch hA hcall hin ht
  unfold Se.val Tr.val
  go_enter Tryz.func25, Tryz.ntmps25
  go_wp2_with (first
    | (go_at_call 22; refine (valid_any _ _).mono ?_; rintro e w1 ⟨rfl, rfl⟩)
    | (go_at_call 45; refine (HCH.out _).mono ?_; rintro e w1 ⟨rfl, hb⟩; replace hb := HA.out _ hb))
  refine wp_region_ord 6 [(1, 0), (1, 1), (1, 2), (2, 3), (2, 4), (2, 5)] (Ag w s r) (by kernel_rfl) (by kernel_rfl) (fun _ _ d _ _ h => by cases d <;> exact h) (hb.below (Below.refl _ _).drew) ?_
  replace hb := hb.below (Below.refl _ _).drew
  iterate 3
    refine wpOrd_take (v := ?_) rfl (by rfl) (fun w hSw => ?_) ?_
    rotate_left 1
    · obtain ⟨q0, q1, q2, q3, q4, q5⟩ := hSw.s.six
      obtain ⟨r0, r1, r2⟩ := RowT.three hSw.r
      clear hSw
      go_simp
      with_reducible rfl
    simp only [Act.put, List.setIfInBounds_toArray, List.set_cons_zero, List.set_cons_succ]
  refine wpOrd_step rfl (fun K hK => ⟨by rfl, ?_⟩)
  go_simp
  go_at_call 47
  refine (more_any key r _).mono ?_
  rintro e w2 ⟨rfl, hw⟩
  have hb2 : Below w1.drew.heap.size w1.drew w2 := by rw [← hw]; exact ((Below.refl _ _).alloc (Nat.le_refl _) _).alloc (by simp) _
  have hk2 : Boxed w2 w1.drew.heap.size 3 (.int .i64 key) := by rw [← hw]; exact (Boxed.new _ _ _).alloc _
  have hr2 : Row w2 (w1.drew.heap.size + 1) 56 r.cells := by rw [← hw]; exact row_at (by simp) _ _
  clear hw
  replace hb := hb.below hb2
  refine hK _ _ hb ?_
  clear hK K hb2
  refine wpOrd_step rfl (fun K hK => ⟨by rfl, ?_⟩)
  go_simp
  have hb3 := hb.below (below_alloc w2 (Obj.cells #[.func (.func 71) #[] #[.pointer (some ⟨w1.drew.heap.size + 1, 0, none⟩), .pointer (some ⟨w1.drew.heap.size, 0, none⟩)]] 96))
  refine hK _ _ hb3 ?_
  clear hK K
  refine wpOrd_step rfl (fun K hK => ⟨by rfl, ?_⟩)
  go_simp
  go_at_call 46
  refine (HC.out _ _ _ _ (hr2.alloc _) (hk2.alloc _) (Boxed.new _ _ _)).mono ?_
  rintro e w3 ⟨rfl, hb4⟩
  replace hb := hb3.below hb4
  refine hK _ _ hb ?_
  clear hK K hb3 hb4 hr2 hk2
  refine wpOrd_nil ?_
  simp only [List.drop_succ_cons, List.drop_zero]
  have ho := hb.o
  obtain ⟨f0, f1, f2, f3, f4, f5⟩ := ho.free
  obtain ⟨q0, q1, q2, q3, q4, q5⟩ := ho.six
  go_wp2_with fail
  have h6 : RowS ((((((w3.setCell ⟨w.heap.size + 1 + 1, 0, none⟩ (.int .i64 t.x.a)).setCell ⟨w.heap.size + 1 + 1, 1, none⟩ (.int .i64 t.x.b)).setCell ⟨w.heap.size + 1 + 1, 2, none⟩ (.int .i64 t.y.a)).setCell ⟨w.heap.size + 1 + 1, 3, none⟩ (.int .i64 t.y.b)).setCell ⟨w.heap.size + 1 + 1, 4, none⟩ (.int .i64 t.z.a)).setCell ⟨w.heap.size + 1 + 1, 5, none⟩ (.int .i64 t.z.b)) (w.heap.size + 1 + 1) t := Row.store (Row.store (Row.store (Row.store (Row.store (Row.store ho 0 _) 1 _) 2 _) 3 _) 4 _) 5 _
  have hB6 : Below w.heap.size w ((((((w3.setCell ⟨w.heap.size + 1 + 1, 0, none⟩ (.int .i64 t.x.a)).setCell ⟨w.heap.size + 1 + 1, 1, none⟩ (.int .i64 t.x.b)).setCell ⟨w.heap.size + 1 + 1, 2, none⟩ (.int .i64 t.y.a)).setCell ⟨w.heap.size + 1 + 1, 3, none⟩ (.int .i64 t.y.b)).setCell ⟨w.heap.size + 1 + 1, 4, none⟩ (.int .i64 t.z.a)).setCell ⟨w.heap.size + 1 + 1, 5, none⟩ (.int .i64 t.z.b)) := (((((hb.b.setCell (by simp only []; omega) _).setCell (by simp only []; omega) _).setCell (by simp only []; omega) _).setCell (by simp only []; omega) _).setCell (by simp only []; omega) _).setCell (by simp only []; omega) _
  generalize ((((((w3.setCell ⟨w.heap.size + 1 + 1, 0, none⟩ (.int .i64 t.x.a)).setCell ⟨w.heap.size + 1 + 1, 1, none⟩ (.int .i64 t.x.b)).setCell ⟨w.heap.size + 1 + 1, 2, none⟩ (.int .i64 t.y.a)).setCell ⟨w.heap.size + 1 + 1, 3, none⟩ (.int .i64 t.y.b)).setCell ⟨w.heap.size + 1 + 1, 4, none⟩ (.int .i64 t.z.a)).setCell ⟨w.heap.size + 1 + 1, 5, none⟩ (.int .i64 t.z.b)) = W6 at *
  obtain ⟨p0, p1, p2, p3, p4, p5⟩ := h6.six
  exact bodyPost_ret (v := .tuple #[.agg #[.int .i64 t.x.a, .int .i64 t.x.b, .int .i64 t.y.a, .int .i64 t.y.b, .int .i64 t.z.a, .int .i64 t.z.b], .int .i64 0]) (by simp [results, Tryz.results25, go_sem, p0, p1, p2, p3, p4, p5]) rfl ⟨rfl, hB6⟩
theorem again_any (key : Int) (s : Se) (r : Tr) (w : World) :
    Calls Tryz.prog 25 #[.int .i64 key, s.val, r.val] w fun e w' => e = .returned (.tuple #[(againC key s r).val, .int .i64 (againE key s)]) ∧ Below w.heap.size w w' := by
  cases hv : vld key with
  | false =>
    have e1 : againC key s r = default := by unfold againC; rw [hv]; rfl
    have e2 : againE key s = 90 := by unfold againE; rw [hv]; rfl
    rw [e1, e2]; exact again_no key s r w hv
  | true =>
    cases hc : okS s with
    | false =>
      have e1 : againC key s r = default := by unfold againC; rw [hv, hc]; rfl
      have e2 : againE key s = 100 := by unfold againE chS; rw [hv, hc]; rfl
      rw [e1, e2]; exact again_bad key s r w hv hc
    | true =>
      have e1 : againC key s r = s.map (moreC key r) := by unfold againC; rw [hv, hc]; rfl
      have e2 : againE key s = 0 := by unfold againE chS; rw [hv, hc]; rfl
      rw [e1, e2]; exact again_ok key s r w hv hc
end Go.Proofs.YthboebhghaabnaaGreatDoor

set_option linter.unusedSimpArgs false
set_option linter.unusedVariables false
namespace Go.Proofs.YthboebhghaabnaaGreatDoor
open Go.RowKit Fk Sha
/-! What the walks over mixes lean on. -/
def TabS (w : World) : Prop := Tab w ∧ 1 < w.heap.size ∧ 0 < w.heap.size
theorem TabS.below {w w' : World} (h : TabS w) (hb : Below w.heap.size w w') : TabS w' :=
  ⟨h.1.keep (g := w.heap.size) h.2 (fun b hl => hb.block b hl), Nat.lt_of_lt_of_le h.2.1 hb.size, Nat.lt_of_lt_of_le h.2.2 hb.size⟩
theorem commitS (tag : ByteArray) (o : Og) (ho : o.ok) (ht : tag.size ≤ 1000) (w : World) (hT : TabS w) :
    Calls Tryz.prog 27 #[.string tag, .agg o.cells.toArray] w fun e w' => e = .returned (.agg ((comN tag o).map bv).toArray) ∧ Below w.heap.size w w' := commit_any tag o ho ht w hT.1 hT.2
theorem comN_length (tag : ByteArray) (o : Og) : (comN tag o).length = 32 := tagged_length _ _
/-- where a mix's slices lie -/
structure MxA where
  ai : Option Addr
  ci : Nat
  am : Option Addr
  cm : Nat
  ao : Option Addr
  co : Nat
  al : Option Addr
  cl : Nat
  ar : Option Addr
  cr : Nat
def MxA.cells (x : MxA) (m : Mx) : List Value := [.slice x.ai m.i.length x.ci, .slice x.am m.m.length x.cm, .slice x.ao m.o.length x.co, .slice x.al m.l.length x.cl, .slice x.ar m.r.length x.cr]
structure MxS (w : World) (B0 : Nat) (x : MxA) (z : Mx) : Prop where
  i : SlS w B0 (.slice x.ai z.i.length x.ci) z.i
  m : SlS w B0 (.slice x.am z.m.length x.cm) z.m
  o : SlS w B0 (.slice x.ao z.o.length x.co) z.o
  l : SlG 32 encD w B0 (.slice x.al z.l.length x.cl) z.l
  r : SlG 32 encD w B0 (.slice x.ar z.r.length x.cr) z.r
theorem MxS.below {w w' : World} {B0 : Nat} {x : MxA} {m : Mx} (h : MxS w B0 x m) (hb : Below B0 w w') : MxS w' B0 x m := ⟨h.i.below hb, h.m.below hb, h.o.below hb, h.l.below hb, h.r.below hb⟩
theorem MxS.mono {w : World} {B0 B1 : Nat} {x : MxA} {m : Mx} (h : MxS w B0 x m) (hb : B0 ≤ B1) : MxS w B1 x m := ⟨h.i.mono hb, h.m.mono hb, h.o.mono hb, h.l.mono hb, h.r.mono hb⟩
/-- a mix whose digests are whole -/
structure MxOK (m : Mx) : Prop where
  l : ∀ i, i < m.l.length → (m.l.getD i default).length = 32
  r : ∀ i, i < m.r.length → (m.r.getD i default).length = 32
theorem range_row {w : World} {g : Nat} {t : TypeId} {vs : List Value} (h : Row w g t vs) : w.rangeAt g 0 vs := fun j v hj => by
  rw [Nat.zero_add, h.cell]; exact hj
theorem range_sl {α : Type} [Inhabited α] {m : Nat} {enc : α → List Value} {w : World} {b off j : Nat} {x : α} (h : ∀ k, k < m → w.cell? ⟨b, off + j * m + k, none⟩ = some ((enc x).getD k undef)) (hm : (enc x).length = m) : w.rangeAt b (off + j * m) (enc x) := fun k v hk => by
  have hlt : k < m := by rw [← hm]; exact (List.getElem?_eq_some_iff.1 hk).1
  rw [h k hlt, List.getD_eq_getElem?_getD, hk]; rfl
theorem range_below {w w' : World} {b off n : Nat} {vs : List Value} (h : w.rangeAt b off vs) (hb : Below n w w') (hl : b < n) : w'.rangeAt b off vs := fun k v hk => (hb.cell (p := ⟨b, off + k, none⟩) hl).trans (h k v hk)
theorem wpList_load_row {P : Program} {ops : Array Oper} {rest : List Oper} {o : Oper} {a : Act} {w : World} {Q : Exit → Act → World → Prop} (hg : o.guard = none) (ty : TypeId) (x : Operand) (ho : o.op = .load ty x) (b off : Nat) (cs : List Value) (hx : a.eval x = .pointer (some ⟨b, off, none⟩))
    (hc : w.rangeAt b off cs) {d : TypeDesc} (hu : P.underlying ty = some d) (hd : d.isRow = true) (hi : (P.info? ty).map (·.size) = some cs.length) (h : wpList P ops Q rest (a.put o.dst (.agg cs.toArray)) w) : wpList P ops Q (o :: rest) a w :=
  wpList_plain hg fun _ hK => by
    unfold Oper.wp
    rw [exec_load ho hx (run_loadAt_mid w b off ty cs d hc hu hd hi)]
    exact hK _ _ h
theorem sizeOg {o : Og} (h : o.s.length = 32) : (Tryz.prog.info? 60).map (·.size) = some o.cells.length := by
  rw [og_len h]; kernel_rfl
theorem sizeDg {d : List B} (h : d.length = 32) : (Tryz.prog.info? 58).map (·.size) = some (encD d).length := by
  unfold encD; rw [List.length_map, h]; kernel_rfl
def hvL : List Value := [.string ⟨#[108, 101, 102, 116]⟩, .func (Fn.func 48) #[] #[], .func (Fn.func 49) #[] #[], .func (Fn.func 50) #[] #[]]
def hvR : List Value := [.string ⟨#[114, 105, 103, 104, 116]⟩, .func (Fn.func 51) #[] #[], .func (Fn.func 52) #[] #[], .func (Fn.func 53) #[] #[]]
def hvOf (b : Int) : List Value := if b = 0 then hvL else hvR
/-- an opening and its half, laid out beside each other -/
structure CkB (wr : World) (og : Og) (bt : Int) (G1 G2 : Nat) (W : World) : Prop where
  b : Below wr.heap.size wr W
  o : Row W G1 60 og.cells
  h : Row W G2 71 (hvOf bt)
  g1 : wr.heap.size ≤ G1
  g2 : wr.heap.size ≤ G2
theorem CkB.below {wr W W' : World} {o : Og} {b : Int} {G1 G2 : Nat} (h : CkB wr o b G1 G2 W) (hb : Below W.heap.size W W') : CkB wr o b G1 G2 W' :=
  ⟨h.b.trans (hb.mono h.b.size), h.o.below hb h.o.lt, h.h.below hb h.h.lt, h.g1, h.g2⟩
theorem below_drewN (n : Nat) (W : World) (k : Nat) : Below n W (W.drewN k) := ⟨rfl, rfl, rfl, Nat.le_refl _, fun _ _ => rfl⟩
def zHalf : List Value := [.string ⟨#[]⟩, .nilFunc, .nilFunc, .nilFunc]
/-- an opening stored, then its half -/
theorem CkB.store {wr W : World} {og : Og} {bt : Int} {G1 G2 : Nat} (hB : Below wr.heap.size wr W) (hg1 : wr.heap.size ≤ G1) (hg2 : wr.heap.size ≤ G2) (hne : G1 ≠ G2) (r1 : Row W G1 60 zOgC) (r2 : Row W G2 71 zHalf) {v0 v1 v2 v3 : Value} (hv : hvOf bt = [v0, v1, v2, v3]) :
    CkB wr og bt G1 G2 (((((W.setRow G1 og.cells.toArray).setCell ⟨G2, 0, none⟩ v0).setCell ⟨G2, 1, none⟩ v1).setCell ⟨G2, 2, none⟩ v2).setCell ⟨G2, 3, none⟩ v3) := by
  have k1 : Row (W.setRow G1 og.cells.toArray) G1 60 og.cells := setRow_heap W _ _ _ _ _ r1
  have k2 : Row (W.setRow G1 og.cells.toArray) G2 71 zHalf := r2.keep (setRow_other W G1 G2 _ hne.symm)
  have e : ∀ (W : World) (i : Nat) (v : Value), Row W G1 60 og.cells → Row (W.setCell ⟨G2, i, none⟩ v) G1 60 og.cells := fun W i v h => Row.other h hne v
  refine ⟨((((below_setRow hB hg1 _).setCell (p := ⟨G2, 0, none⟩) hg2 _).setCell (p := ⟨G2, 1, none⟩) hg2 _).setCell (p := ⟨G2, 2, none⟩) hg2 _).setCell (p := ⟨G2, 3, none⟩) hg2 _, e _ _ _ (e _ _ _ (e _ _ _ (e _ _ _ k1))), ?_, hg1, hg2⟩
  rw [hv]
  exact (((k2.store 0 v0).store 1 v1).store 2 v2).store 3 v3
theorem Row.setRow_other {W : World} {g k : Nat} {t : TypeId} {vs : List Value} (h : Row W k t vs) (hne : k ≠ g) (cs : Array Value) : Row (W.setRow g cs) k t vs := h.keep (Go.setRow_other W g k cs hne)
end Go.Proofs.YthboebhghaabnaaGreatDoor

/-! A whole drawn region by a tree of orders, where S holds till its end. -/
namespace Fk
open Go
section
variable {P : Program} {ops : Array Oper} {Q : Exit → Act → World → Prop} {md : Region.Mode} {S : World → Prop}
def treeW (md : Region.Mode) (ops : Array Oper) : Tree → Array Bool → Bool
  | .done, listed => decide (Region.ready md ops listed = [])
  | .take k t, listed => (Region.ready md ops listed).contains k && Region.free md ops listed k && treeW md ops t (listed.setIfInBounds k true)
  | .one k t, listed => decide (Region.ready md ops listed = [k]) && treeW md ops t (listed.setIfInBounds k true)
  | .two i s j t, listed => decide (Region.ready md ops listed = [i, j]) && treeW md ops s (listed.setIfInBounds i true) && treeW md ops t (listed.setIfInBounds j true)
def lenT : Tree → Nat
  | .done => 0
  | .take _ t => lenT t + 1
  | .one _ t => lenT t + 1
  | .two _ s _ t => max (lenT s) (lenT t) + 1
def wpTreeW (P : Program) (ops : Array Oper) (Q : Exit → Act → World → Prop) (S : World → Prop) : Tree → Act → World → Prop
  | .done, a, w => Q .normal a w
  | .take k t, a, w => ∃ o v, ops[k]? = some o ∧ YieldsIf P ops S o v a ∧ wpTreeW P ops Q S t (a.put o.dst v) w
  | .one k t, a, w => ∃ o, ops[k]? = some o ∧ if Region.wanted o (yielded ops a.tmps) then o.wp P a w (fun a' w' => S w' ∧ wpTreeW P ops Q S t a' w') Q else wpTreeW P ops Q S t (a.put o.dst undef) w
  | .two i s j t, a, w => (∃ o, ops[i]? = some o ∧ if Region.wanted o (yielded ops a.tmps) then o.wp P a w (fun a' w' => S w' ∧ wpTreeW P ops Q S s a' w') Q else wpTreeW P ops Q S s (a.put o.dst undef) w) ∧
    (∃ o, ops[j]? = some o ∧ if Region.wanted o (yielded ops a.tmps) then o.wp P a w (fun a' w' => S w' ∧ wpTreeW P ops Q S t a' w') Q else wpTreeW P ops Q S t (a.put o.dst undef) w)
theorem treeW_sound (hQ : ∀ c a (d : Option Tmp) v w, Q (.panic c) (Act.put a d v) w → Q (.panic c) a w) (hsel : Region.noSelect ops = true) :
    ∀ (t : Tree) (m : Nat) (listed : Array Bool) (a : Act) (w : World), lenT t ≤ m → treeW md ops t listed = true → S w → wpTreeW P ops Q S t a w → wpAnyH P md ops Q S m listed a w
  | .done, m, listed, a, w, _, hB, _, h => by
    simp only [treeW, decide_eq_true_eq] at hB
    exact wpAnyH_done hB h m
  | .take k t, 0, listed, a, w, hm, hB, hS, h => by simp [lenT] at hm
  | .one k t, 0, listed, a, w, hm, hB, hS, h => by simp [lenT] at hm
  | .two i s j t, 0, listed, a, w, hm, hB, hS, h => by simp [lenT] at hm
  | .take k t, m + 1, listed, a, w, hm, hB, hS, h => by
    obtain ⟨o, v, ho, hy, h⟩ := h
    simp only [treeW, Bool.and_eq_true] at hB
    obtain ⟨⟨h2, h3⟩, h4⟩ := hB
    exact wpAnyH_take ho hsel h3 h2 (fun c a w => hQ c a o.dst v w) hy hS (treeW_sound hQ hsel t m _ _ w (by simp only [lenT] at hm; omega) h4 hS h)
  | .one k t, m + 1, listed, a, w, hm, hB, hS, h => by
    simp only [treeW, Bool.and_eq_true, decide_eq_true_eq] at hB
    refine wpAnyH_all hB.1 (by simp) fun i hi => ?_
    obtain rfl : i = k := by simpa using hi
    exact tree_op hS h (fun a' w' hS' h' => ⟨hS', treeW_sound hQ hsel t m _ a' w' (by simp only [lenT] at hm; omega) hB.2 hS' h'⟩)
  | .two i s j t, m + 1, listed, a, w, hm, hB, hS, h => by
    simp only [treeW, Bool.and_eq_true, decide_eq_true_eq] at hB
    obtain ⟨⟨h1, h2⟩, h3⟩ := hB
    have hl : lenT s ≤ m ∧ lenT t ≤ m := by simp only [lenT] at hm; omega
    refine wpAnyH_all h1 (by simp) fun k hk => ?_
    simp only [List.mem_cons, List.not_mem_nil, or_false] at hk
    rcases hk with rfl | rfl
    · exact tree_op hS h.1 (fun a' w' hS' h' => ⟨hS', treeW_sound hQ hsel s m _ a' w' hl.1 h2 hS' h'⟩)
    · exact tree_op hS h.2 (fun a' w' hS' h' => ⟨hS', treeW_sound hQ hsel t m _ a' w' hl.2 h3 hS' h'⟩)
theorem wp_region_treeW {id : Nat} {a : Act} {w : World} {l : List Oper} (t : Tree) (S : World → Prop) (hm : P.follows .mixedOrders = true) (hB : (Region.noSelect l.toArray && decide (lenT t ≤ l.toArray.size) && treeW .any l.toArray t (Array.replicate l.toArray.size false)) = true)
    (hQ : ∀ c a (d : Option Tmp) v w, Q (.panic c) (Act.put a d v) w → Q (.panic c) a w) (hS : S w.drew) (h : wpTreeW P l.toArray Q S t a w.drew) : (Code.region id l.toArray true).wp P Q a w := by
  simp only [Bool.and_eq_true, decide_eq_true_eq] at hB
  exact wp_region_held hm (treeW_sound hQ hB.1.1 t _ _ _ _ hB.1.2 hB.2 hS h)
theorem wpTreeW_take {k : Nat} {t : Tree} {o : Oper} {v : Value} {a : Act} {w : World} (ho : ops[k]? = some o) (hw : Region.wanted o (yielded ops a.tmps) = true)
    (hy : ∀ w, S w → (execOp a.eval o).run P w = .ok (.value v) w) (h : wpTreeW P ops Q S t (a.put o.dst v) w) : wpTreeW P ops Q S (.take k t) a w :=
  ⟨o, v, ho, .inl ⟨hw, hy⟩, h⟩
theorem wpTreeW_one {k : Nat} {t : Tree} {o : Oper} {a : Act} {w : World} (ho : ops[k]? = some o)
    (h : ∀ K : Act → World → Prop, (∀ a w, S w → wpTreeW P ops Q S t a w → K a w) → Region.wanted o (yielded ops a.tmps) = true ∧ o.wp P a w K Q) : wpTreeW P ops Q S (.one k t) a w := by
  obtain ⟨h1, h2⟩ := h (fun a' w' => S w' ∧ wpTreeW P ops Q S t a' w') (fun _ _ h1 h2 => ⟨h1, h2⟩)
  exact ⟨o, ho, by rw [if_pos h1]; exact h2⟩
end
end Fk

set_option linter.unusedSimpArgs false
set_option linter.unusedVariables false
namespace Go.Proofs.YthboebhghaabnaaGreatDoor
open Go.RowKit Go.Shelf Fk Sha
attribute [local go_sem] Oper.semAt_some
attribute [local go_sem] wide_fn
/-! The ways of letters. -/
def wyVals (bits : List Int) (l o : List Og) : List (Array Value) := (List.range bits.length).map fun j => #[.int .i64 (leftAt bits l o j), .int .i64 (rightAt bits l o j)]
theorem wyVals_length (bits : List Int) (l o : List Og) : (wyVals bits l o).length = bits.length := by simp [wyVals]
theorem wyVals_get {bits : List Int} {l o : List Og} {j : Nat} (h : j < bits.length) : (wyVals bits l o)[j]? = some #[.int .i64 (leftAt bits l o j), .int .i64 (rightAt bits l o j)] := by
  unfold wyVals
  rw [List.getElem?_map, List.getElem?_range h]
  rfl
/-- what the iterator leans on -/
structure WyT (bits : List Int) (l o : List Og) (A A1 A2 : Option Addr) (c c1 c2 b0 b1 b2 B0 : Nat) (W : World) : Prop where
  x0 : Boxed W b0 23 (.slice A bits.length c)
  x1 : Boxed W b1 38 (.slice A1 l.length c1)
  x2 : Boxed W b2 38 (.slice A2 o.length c2)
  s0 : SlI W B0 (.slice A bits.length c) bits
  s1 : SlG 36 Og.cells W B0 (.slice A1 l.length c1) l
  s2 : SlG 36 Og.cells W B0 (.slice A2 o.length c2) o
def wyY (B0 b0 b1 b2 : Nat) (r : Nat) : Prop := r < B0 ∨ r = b0 ∨ r = b1 ∨ r = b2
theorem WyT.on {bits : List Int} {l o : List Og} {A A1 A2 : Option Addr} {c c1 c2 b0 b1 b2 B0 : Nat} {W W' : World} (h : WyT bits l o A A1 A2 c c1 c2 b0 b1 b2 B0 W) (hs : SameOn (wyY B0 b0 b1 b2) W W') : WyT bits l o A A1 A2 c c1 c2 b0 b1 b2 B0 W' :=
  ⟨(hs b0 (.inr (.inl rfl))).trans h.x0, (hs b1 (.inr (.inr (.inl rfl)))).trans h.x1, (hs b2 (.inr (.inr (.inr rfl)))).trans h.x2,
    h.s0.keep fun b hb => hs b (.inl hb), h.s1.keep fun b hb => hs b (.inl hb), h.s2.keep fun b hb => hs b (.inl hb)⟩
theorem SameOn.new {Y : Nat → Prop} {W : World} (o : Obj) (h : ∀ r, Y r → r < W.heap.size) : SameOn Y W (W.alloc o) := fun r hr => Below.heap_alloc W o r (h r hr)
theorem yield_one {e : Ending} {A B : Prop} (h : (e = .returned (.bool true) ∧ A) ∨ (e = .returned (.bool false) ∧ B)) : ∃ b, e = .returned (.bool b) ∧ (b = true → A) ∧ (b = false → B) := by
  rcases h with ⟨rfl, h⟩ | ⟨rfl, h⟩
  · exact ⟨true, rfl, fun _ => h, fun e => by cases e⟩
  · exact ⟨false, rfl, fun e => (by cases e), fun _ => h⟩
set_option maxRecDepth 100000 in
set_option maxHeartbeats 4000000 in
theorem ways_seq (bits : List Int) (l o : List Og) (A A1 A2 : Option Addr) (c c1 c2 b0 b1 b2 B0 K : Nat) (hB : B0 ≤ K) (hk0 : b0 < K) (hk1 : b1 < K) (hk2 : b2 < K) (hbit : bits.all bitB = true) (hl : l.length = bits.length) (ho : o.length = bits.length) (m : Nat) (hm : 1 ≤ m) :
    SeqL Fence.wide m Tryz.prog 66 #[.pointer (some ⟨b0, 0, none⟩), .pointer (some ⟨b1, 0, none⟩), .pointer (some ⟨b2, 0, none⟩)] (wyVals bits l o)
      (fun _ => False) (wyY B0 b0 b1 b2) (WyT bits l o A A1 A2 c c1 c2 b0 b1 b2 B0) K := fun lb J Jx W hT hsz hJ hJx hY h0 => by
  refine callsIn_of_wp Tryz.func66 rfl trivial ?_ rfl
  simp only [Tryz.ntmps66, List.size_toArray, List.length_cons, List.length_nil, Nat.reduceAdd, Nat.reduceSub, Array.replicate_succ, Array.replicate_zero, List.push_toArray, List.append_toArray, List.nil_append, List.cons_append]
  have q1 := hT.x0.cell
  gi_wp2
  gi_loopw [10] (fun i wr => ∃ k : Nat, i = .int .i64 k ∧ k ≤ bits.length ∧ WyT bits l o A A1 A2 c c1 c2 b0 b1 b2 B0 wr ∧ J k wr ∧ K ≤ wr.heap.size) (fun i _ => bits.length - (intOf i).toNat)
  case atStart => exact ⟨0, rfl, by omega, hT, h0, by omega⟩
  case round =>
    clear q1
    obtain ⟨i, rfl, hi, hS, hJk, hKw⟩ := hrel
    by_cases hlt : i < bits.length
    · obtain ⟨a0, o0, ha0, hb0, e0⟩ := sl_at hS.s0 hlt
      obtain ⟨a1, o1, ha1, hb1, e1⟩ := sl_at hS.s1 (j := i) (by omega)
      obtain ⟨a2, o2, ha2, hb2, e2⟩ := sl_at hS.s2 (j := i) (by omega)
      subst ha0 ha1 ha2
      have d0 := e0 0 (by omega)
      have d1 := e1 0 (by omega)
      have d2 := e2 0 (by omega)
      have hbt := bit_at hbit hlt
      have hv := wyVals_get (l := l) (o := o) hlt
      unfold leftAt rightAt at hv
      obtain ⟨b, hbb⟩ : ∃ b, bits.getD i default = b := ⟨_, rfl⟩
      simp only [encI, hbb, List.getD_cons_zero, Nat.add_zero, Nat.mul_one] at d0
      simp only [Og.cells, List.cons_append, List.getD_cons_zero, Nat.add_zero] at d1 d2
      obtain ⟨x, hx⟩ : ∃ x, (l.getD i default).a = x := ⟨_, rfl⟩
      obtain ⟨y, hy⟩ : ∃ y, (o.getD i default).a = y := ⟨_, rfl⟩
      rw [hbb] at hbt
      rw [hbb, hx, hy] at hv
      rw [hx] at d1
      rw [hy] at d2
      have hw1 : IntKind.i64.wrap ((i : Int) + 1) = ((i + 1 : Nat) : Int) := by have := hS.s0.1; rw [IntWalk.i64_in _ (by omega)]; omega
      have s1 : (0 : Int) ≤ i := by omega
      have s2 : (i : Int) < bits.length := by omega
      have s3 : (i : Int) < l.length := by omega
      have s4 : (i : Int) < o.length := by omega
      have g1 := hS.x1.cell
      have g2 := hS.x2.cell
      have l1 : b1 < wr.heap.size := by omega
      have l2 : b2 < wr.heap.size := by omega
      have l3 : a1 < wr.heap.size := by omega
      have l4 : a2 < wr.heap.size := by omega
      clear hx hy hbb e0 e1 e2
      gi_wp2
      gi_region
      have r2 := Row.new wr 84 [.int .i64 x, .int .i64 y]
      have hS2 := (hS.on (SameOn.new (.cells #[.int .i64 x, .int .i64 y] 84) (fun r hr => by rcases hr with h | h | h | h <;> omega)))
      have hJ2 := hJ.new (.cells #[.int .i64 x, .int .i64 y] 84) hJk
      have hz2 : K ≤ (wr.alloc (.cells #[.int .i64 x, .int .i64 y] 84)).heap.size := by simp; omega
      obtain ⟨W1, hW1⟩ : ∃ W1, wr.alloc (.cells #[.int .i64 x, .int .i64 y] 84) = W1 := ⟨_, rfl⟩
      rw [hW1] at hS2 hJ2 hz2 ⊢
      replace r2 : Row W1 wr.heap.size 84 [.int .i64 x, .int .i64 y] := hW1 ▸ r2
      replace r2 : Row W1.drew wr.heap.size 84 [.int .i64 x, .int .i64 y] := r2
      replace hS2 : WyT bits l o (some ⟨a0, o0, none⟩) (some ⟨a1, o1, none⟩) (some ⟨a2, o2, none⟩) c c1 c2 b0 b1 b2 B0 W1.drew := hS2.on (fun r hr => rfl)
      replace hJ2 : J i W1.drew := hJ _ _ _ none hJ2 (grown_below' (Below.refl _ _).drew none) (fun r e => by cases e)
      replace hz2 : K ≤ W1.drew.heap.size := hz2
      clear hW1 hS hJk g1 g2 d0 d1 d2
      generalize W1.drew = W2 at *
      generalize wr.heap.size = gq at *
      have c0 : W2.cell? ⟨gq, 0, none⟩ = some (.int .i64 x) := r2.cell 0
      have c1' : W2.cell? ⟨gq, 1, none⟩ = some (.int .i64 y) := r2.cell 1
      have hJ3 : J i W2.drew := hJ _ _ _ none hJ2 (grown_below' (Below.refl _ _).drew none) (fun r e => by cases e)
      obtain ⟨fn, tmps, assign, body, hy, hR⟩ := hY i _ W2.drew hJ3 hz2 hv
      have hS3 : WyT bits l o (some ⟨a0, o0, none⟩) (some ⟨a1, o1, none⟩) (some ⟨a2, o2, none⟩) c c1 c2 b0 b1 b2 B0 W2.drew := hS2.on (fun r hr => rfl)
      rcases hbt with rfl | rfl
      all_goals
        simp only [if_true, Int.reduceEq, if_false] at hy
        clear hv
        gi_wp2
        gi_region_with (refine hR.mono ?_; rintro e W3 hor; obtain ⟨bb, rfl, hor2⟩ := yield_one hor; clear hor)
        all_goals simp only [Act.put, List.getElem_toArray, List.getElem_cons_succ, List.getElem_cons_zero, List.setIfInBounds_toArray, List.set_cons_zero, List.set_cons_succ]
        all_goals cases bb
        all_goals first
          | (have hJx4 := hor2.2 rfl
             clear hy hR hY hS3 hJ3 c0 c1' r2 hS2 hJ2 hor2
             gi_wp2
             refine bodyPost_ret (results_none rfl _ _ _) rfl ?_
             exact ⟨⟨_, rfl⟩, .inr ⟨i, by rw [wyVals_length]; omega, hJx4⟩⟩)
          | (obtain ⟨hJ4, hS4, hz4⟩ := hor2.1 rfl
             have hS5 := hS3.on hS4
             have hz5 : K ≤ W3.heap.size := Nat.le_trans hz2 hz4
             clear hy hR hY hS3 hJ3 c0 c1' r2 hS2 hJ2 hor2
             gi_wp2
             refine ⟨⟨i + 1, by first | rfl | go_num, by omega, hS5, hJ4, hz5⟩, by simp [intOf]; omega⟩)
    · obtain rfl : i = bits.length := by omega
      gi_wp2
      go_end0
      exact ⟨⟨_, rfl⟩, .inl (by rw [wyVals_length]; exact hJk)⟩
end Go.Proofs.YthboebhghaabnaaGreatDoor
