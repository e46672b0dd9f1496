import Derived.Test.YthckledagggoiaaGreatDoorZPj
import Derived.Test.YthckledagggoiaaGreatDoorZFt9
import Derived.Deep.LoopGhost
import Derived.Deep.Cut
set_option linter.unusedSimpArgs false
set_option linter.unusedVariables false
namespace Go.Proofs.YthckledagggoiaaGreatDoor
open Go.RowKit Go.Shelf Fk Sha
/-! forward.index -/
def lastI (l : List Int) : Int := l.getD (l.length - 1) default
def lineTo (o te : Int) (x : Lx) : Bool := decide (x.ol.getD 0 default = o) && decide (lastI x.ol = te)
def findK (n : Nat) (f : Nat → Bool) : Option Nat := (List.range n).find? f
theorem findK_some {f : Nat → Bool} {n k : Nat} (h : k < n) (hk : f k = true) (hb : ∀ q, q < k → f q = false) : findK n f = some k := by
  unfold findK
  rw [List.find?_range_eq_some]
  exact ⟨hk, by simpa using h, fun j hj => by simpa using hb j hj⟩
theorem findK_none {f : Nat → Bool} {n : Nat} (hb : ∀ q, q < n → f q = false) : findK n f = none := by
  unfold findK
  rw [List.find?_range_eq_none]
  exact fun j hj => by simpa using hb j hj
theorem findK_is {f : Nat → Bool} {n k : Nat} (h : findK n f = some k) : k < n ∧ f k = true ∧ ∀ q, q < k → f q = false := by
  unfold findK at h
  rw [List.find?_range_eq_some] at h
  obtain ⟨h1, h2, h3⟩ := h
  exact ⟨by simpa using h2, h1, fun q hq => by simpa using h3 q hq⟩
def idxO (l : List Lx) (o te : Int) : Option Nat := findK l.length fun q => lineTo o te (l.getD q default)
def optI : Option Nat → Int
  | some k => (k : Int)
  | none => -1
set_option maxRecDepth 100000 in
set_option maxHeartbeats 4000000 in
theorem next2_any (b off m c : Nat) (d0 d1 : Int) (gv : Value) (cl rm : Int) (rv pv : Value) (A2 : Option Addr) (n2 c2 : Nat) (A3 : Option Addr) (n3 c3 : Nat) (A4 : Option Addr) (n4 c4 : Nat) (hgv : gv = .slice A2 n2 c2) (hrv : rv = .slice A3 n3 c3) (hpv : pv = .slice A4 n4 c4)
    (g g2 : Nat) (o te : Int) (w : World) (hb : b < w.heap.size) (hm : m + 1 ≤ 1000000000)
    (e0 : w.cell? ⟨b, off, none⟩ = some (.int .i64 d0)) (e1 : w.cell? ⟨b, off + m, none⟩ = some (.int .i64 d1)) (e2 : w.cell? ⟨g, 0, none⟩ = some (.int .i64 o)) (e3 : w.cell? ⟨g2, 2, none⟩ = some (.int .i64 te)) :
    Calls Tryz.prog 42 #[.agg #[.slice (some ⟨b, off, none⟩) (m + 1) c, gv, .int .i64 cl, .int .i64 rm, rv, pv], .pointer (some ⟨g, 0, none⟩), .pointer (some ⟨g2, 0, none⟩)] w
      fun e w' => e = .returned (.bool (decide (d0 = o) && decide (d1 = te))) ∧ Below w.heap.size w w' := by
  subst hgv hrv hpv
  have hB := below_alloc' w (.cells #[.slice (some ⟨b, off, none⟩) (m + 1) c, .slice A2 n2 c2, .int .i64 cl, .int .i64 rm, .slice A3 n3 c3, .slice A4 n4 c4] 68)
  have hg : g < w.heap.size := (cell_addr e2).2
  have hg2 : g2 < w.heap.size := (cell_addr e3).2
  have h1 : ((m + 1 : Nat) : Int) - 1 = (m : Int) := by omega
  have h2 : (0 : Int) ≤ (m : Int) := by omega
  have h3 : ¬ ((m : Int) + 1 ≤ (m : Int)) := by omega
  have hwr : IntKind.i64.wrap (m : Int) = (m : Int) := IntWalk.i64_in _ (by omega)
  have r0 := Row.new w 68 [.slice (some ⟨b, off, none⟩) (m + 1) c, .slice A2 n2 c2, .int .i64 cl, .int .i64 rm, .slice A3 n3 c3, .slice A4 n4 c4]
  by_cases q1 : d0 = o
  · have f1 : decide (d0 = o) = true := decide_eq_true q1
    rw [f1, Bool.true_and]
    have f2 : (d0 == o) = true := by rw [q1]; exact beq_self_eq_true o
    have f3 : (d1 == te) = decide (d1 = te) := rfl
    clear f1 q1
    go_enter Tryz.func42, Tryz.ntmps42
    go_upto_region 1 with fail
    obtain ⟨W, hW⟩ : ∃ W, w.alloc (.cells #[.slice (some ⟨b, off, none⟩) (m + 1) c, .slice A2 n2 c2, .int .i64 cl, .int .i64 rm, .slice A3 n3 c3, .slice A4 n4 c4] 68) = W := ⟨_, rfl⟩
    rw [hW] at hB r0 ⊢
    replace e0 := (hB.cell (p := ⟨b, off, none⟩) hb).trans e0
    replace e1 := (hB.cell (p := ⟨b, off + m, none⟩) hb).trans e1
    replace e2 := (hB.cell (p := ⟨g, 0, none⟩) hg).trans e2
    replace e3 := (hB.cell (p := ⟨g2, 2, none⟩) hg2).trans e3
    have hz := hB.size
    have hG := r0.lt
    have k0 := r0.cell 0
    have hb2 : b < W.heap.size := by omega
    have hg3 : g < W.heap.size := by omega
    have hg4 : g2 < W.heap.size := by omega
    clear hW hb hg hg2 r0 hz
    refine wp_region_det 20 (fun w0 => Below W.heap.size W w0) (by kernel_rfl) (by kernel_rfl) (Below.refl _ _).drew ?_
    refine wpDet_take (v := .pointer (some ⟨w.heap.size, 0, none⟩)) rfl (by kernel_rfl) (fun w0 hSw => ?_) ?_
    · skip
      go_simp
    simp only [Act.put, List.getElem_toArray, List.getElem_cons_succ, List.getElem_cons_zero, List.setIfInBounds_toArray, List.set_cons_zero, List.set_cons_succ]
    refine wpDet_take (v := .slice (some ⟨b, off, none⟩) (m + 1) c) rfl (by kernel_rfl) (fun w0 hSw => ?_) ?_
    · have x0 := (hSw.cell (p := ⟨w.heap.size, 0, none⟩) hG).trans k0
      go_simp
    simp only [Act.put, List.getElem_toArray, List.getElem_cons_succ, List.getElem_cons_zero, List.setIfInBounds_toArray, List.set_cons_zero, List.set_cons_succ]
    refine wpDet_take (v := .pointer (some ⟨b, off, none⟩)) rfl (by kernel_rfl) (fun w0 hSw => ?_) ?_
    · skip
      go_simp
    simp only [Act.put, List.getElem_toArray, List.getElem_cons_succ, List.getElem_cons_zero, List.setIfInBounds_toArray, List.set_cons_zero, List.set_cons_succ]
    refine wpDet_take (v := .int .i64 d0) rfl (by kernel_rfl) (fun w0 hSw => ?_) ?_
    · have x0 := (hSw.cell (p := ⟨b, off, none⟩) hb2).trans e0
      go_simp
    simp only [Act.put, List.getElem_toArray, List.getElem_cons_succ, List.getElem_cons_zero, List.setIfInBounds_toArray, List.set_cons_zero, List.set_cons_succ]
    refine wpDet_take (v := .int .i64 o) rfl (by kernel_rfl) (fun w0 hSw => ?_) ?_
    · have x0 := (hSw.cell (p := ⟨g, 0, none⟩) hg3).trans e2
      go_simp
    simp only [Act.put, List.getElem_toArray, List.getElem_cons_succ, List.getElem_cons_zero, List.setIfInBounds_toArray, List.set_cons_zero, List.set_cons_succ]
    refine wpDet_take (v := .bool true) rfl (by kernel_rfl) (fun w0 hSw => ?_) ?_
    · skip
      go_simp
    simp only [Act.put, List.getElem_toArray, List.getElem_cons_succ, List.getElem_cons_zero, List.setIfInBounds_toArray, List.set_cons_zero, List.set_cons_succ]
    refine wpDet_take (v := .bool true) rfl (by kernel_rfl) (fun w0 hSw => ?_) ?_
    · skip
      go_simp
    simp only [Act.put, List.getElem_toArray, List.getElem_cons_succ, List.getElem_cons_zero, List.setIfInBounds_toArray, List.set_cons_zero, List.set_cons_succ]
    refine wpDet_take (v := .pointer (some ⟨w.heap.size, 0, none⟩)) rfl (by kernel_rfl) (fun w0 hSw => ?_) ?_
    · skip
      go_simp
    simp only [Act.put, List.getElem_toArray, List.getElem_cons_succ, List.getElem_cons_zero, List.setIfInBounds_toArray, List.set_cons_zero, List.set_cons_succ]
    refine wpDet_take (v := .slice (some ⟨b, off, none⟩) (m + 1) c) rfl (by kernel_rfl) (fun w0 hSw => ?_) ?_
    · have x0 := (hSw.cell (p := ⟨w.heap.size, 0, none⟩) hG).trans k0
      go_simp
    simp only [Act.put, List.getElem_toArray, List.getElem_cons_succ, List.getElem_cons_zero, List.setIfInBounds_toArray, List.set_cons_zero, List.set_cons_succ]
    refine wpDet_take (v := .pointer (some ⟨w.heap.size, 0, none⟩)) rfl (by kernel_rfl) (fun w0 hSw => ?_) ?_
    · skip
      go_simp
    simp only [Act.put, List.getElem_toArray, List.getElem_cons_succ, List.getElem_cons_zero, List.setIfInBounds_toArray, List.set_cons_zero, List.set_cons_succ]
    refine wpDet_take (v := .slice (some ⟨b, off, none⟩) (m + 1) c) rfl (by kernel_rfl) (fun w0 hSw => ?_) ?_
    · have x0 := (hSw.cell (p := ⟨w.heap.size, 0, none⟩) hG).trans k0
      go_simp
    simp only [Act.put, List.getElem_toArray, List.getElem_cons_succ, List.getElem_cons_zero, List.setIfInBounds_toArray, List.set_cons_zero, List.set_cons_succ]
    refine wpDet_take (v := .int .i64 ((m + 1 : Nat) : Int)) rfl (by kernel_rfl) (fun w0 hSw => ?_) ?_
    · skip
      go_simp
    simp only [Act.put, List.getElem_toArray, List.getElem_cons_succ, List.getElem_cons_zero, List.setIfInBounds_toArray, List.set_cons_zero, List.set_cons_succ]
    refine wpDet_take (v := .int .i64 (m : Int)) rfl (by kernel_rfl) (fun w0 hSw => ?_) ?_
    · skip
      go_simp
    simp only [Act.put, List.getElem_toArray, List.getElem_cons_succ, List.getElem_cons_zero, List.setIfInBounds_toArray, List.set_cons_zero, List.set_cons_succ]
    refine wpDet_take (v := .pointer (some ⟨b, off + m, none⟩)) rfl (by kernel_rfl) (fun w0 hSw => ?_) ?_
    · skip
      go_simp
    simp only [Act.put, List.getElem_toArray, List.getElem_cons_succ, List.getElem_cons_zero, List.setIfInBounds_toArray, List.set_cons_zero, List.set_cons_succ]
    refine wpDet_take (v := .int .i64 d1) rfl (by kernel_rfl) (fun w0 hSw => ?_) ?_
    · have x0 := (hSw.cell (p := ⟨b, off + m, none⟩) hb2).trans e1
      go_simp
    simp only [Act.put, List.getElem_toArray, List.getElem_cons_succ, List.getElem_cons_zero, List.setIfInBounds_toArray, List.set_cons_zero, List.set_cons_succ]
    refine wpDet_take (v := .pointer (some ⟨g2, 0, none⟩)) rfl (by kernel_rfl) (fun w0 hSw => ?_) ?_
    · skip
      go_simp
    simp only [Act.put, List.getElem_toArray, List.getElem_cons_succ, List.getElem_cons_zero, List.setIfInBounds_toArray, List.set_cons_zero, List.set_cons_succ]
    refine wpDet_take (v := .pointer (some ⟨g2, 2, none⟩)) rfl (by kernel_rfl) (fun w0 hSw => ?_) ?_
    · skip
      go_simp
    simp only [Act.put, List.getElem_toArray, List.getElem_cons_succ, List.getElem_cons_zero, List.setIfInBounds_toArray, List.set_cons_zero, List.set_cons_succ]
    refine wpDet_take (v := .int .i64 te) rfl (by kernel_rfl) (fun w0 hSw => ?_) ?_
    · have x0 := (hSw.cell (p := ⟨g2, 2, none⟩) hg4).trans e3
      go_simp
    simp only [Act.put, List.getElem_toArray, List.getElem_cons_succ, List.getElem_cons_zero, List.setIfInBounds_toArray, List.set_cons_zero, List.set_cons_succ]
    refine wpDet_take (v := .bool (decide (d1 = te))) rfl (by kernel_rfl) (fun w0 hSw => ?_) ?_
    · skip
      go_simp
    simp only [Act.put, List.getElem_toArray, List.getElem_cons_succ, List.getElem_cons_zero, List.setIfInBounds_toArray, List.set_cons_zero, List.set_cons_succ]
    refine wpDet_take (v := .bool (decide (d1 = te))) rfl (by kernel_rfl) (fun w0 hSw => ?_) ?_
    · skip
      go_simp
    simp only [Act.put, List.getElem_toArray, List.getElem_cons_succ, List.getElem_cons_zero, List.setIfInBounds_toArray, List.set_cons_zero, List.set_cons_succ]
    refine wpDet_done (fun V hV => ?_)
    have hBV := hB.trans (hV.mono hB.size)
    clear hV hB k0 e0 e1 e2 e3 hb2 hg3 hg4 hG
    go_wp2
    go_ret
    exact ⟨rfl, hBV⟩
  · have f1 : decide (d0 = o) = false := decide_eq_false q1
    rw [f1, Bool.false_and]
    have f2 : (d0 == o) = false := beq_eq_false_iff_ne.2 q1
    clear f1 q1
    go_enter Tryz.func42, Tryz.ntmps42
    go_upto_region 1 with fail
    obtain ⟨W, hW⟩ : ∃ W, w.alloc (.cells #[.slice (some ⟨b, off, none⟩) (m + 1) c, .slice A2 n2 c2, .int .i64 cl, .int .i64 rm, .slice A3 n3 c3, .slice A4 n4 c4] 68) = W := ⟨_, rfl⟩
    rw [hW] at hB r0 ⊢
    replace e0 := (hB.cell (p := ⟨b, off, none⟩) hb).trans e0
    replace e1 := (hB.cell (p := ⟨b, off + m, none⟩) hb).trans e1
    replace e2 := (hB.cell (p := ⟨g, 0, none⟩) hg).trans e2
    replace e3 := (hB.cell (p := ⟨g2, 2, none⟩) hg2).trans e3
    have hz := hB.size
    have hG := r0.lt
    have k0 := r0.cell 0
    have hb2 : b < W.heap.size := by omega
    have hg3 : g < W.heap.size := by omega
    have hg4 : g2 < W.heap.size := by omega
    clear hW hb hg hg2 r0 hz
    refine wp_region_det 20 (fun w0 => Below W.heap.size W w0) (by kernel_rfl) (by kernel_rfl) (Below.refl _ _).drew ?_
    refine wpDet_take (v := .pointer (some ⟨w.heap.size, 0, none⟩)) rfl (by kernel_rfl) (fun w0 hSw => ?_) ?_
    · skip
      go_simp
    simp only [Act.put, List.getElem_toArray, List.getElem_cons_succ, List.getElem_cons_zero, List.setIfInBounds_toArray, List.set_cons_zero, List.set_cons_succ]
    refine wpDet_take (v := .slice (some ⟨b, off, none⟩) (m + 1) c) rfl (by kernel_rfl) (fun w0 hSw => ?_) ?_
    · have x0 := (hSw.cell (p := ⟨w.heap.size, 0, none⟩) hG).trans k0
      go_simp
    simp only [Act.put, List.getElem_toArray, List.getElem_cons_succ, List.getElem_cons_zero, List.setIfInBounds_toArray, List.set_cons_zero, List.set_cons_succ]
    refine wpDet_take (v := .pointer (some ⟨b, off, none⟩)) rfl (by kernel_rfl) (fun w0 hSw => ?_) ?_
    · skip
      go_simp
    simp only [Act.put, List.getElem_toArray, List.getElem_cons_succ, List.getElem_cons_zero, List.setIfInBounds_toArray, List.set_cons_zero, List.set_cons_succ]
    refine wpDet_take (v := .int .i64 d0) rfl (by kernel_rfl) (fun w0 hSw => ?_) ?_
    · have x0 := (hSw.cell (p := ⟨b, off, none⟩) hb2).trans e0
      go_simp
    simp only [Act.put, List.getElem_toArray, List.getElem_cons_succ, List.getElem_cons_zero, List.setIfInBounds_toArray, List.set_cons_zero, List.set_cons_succ]
    refine wpDet_take (v := .int .i64 o) rfl (by kernel_rfl) (fun w0 hSw => ?_) ?_
    · have x0 := (hSw.cell (p := ⟨g, 0, none⟩) hg3).trans e2
      go_simp
    simp only [Act.put, List.getElem_toArray, List.getElem_cons_succ, List.getElem_cons_zero, List.setIfInBounds_toArray, List.set_cons_zero, List.set_cons_succ]
    refine wpDet_take (v := .bool false) rfl (by kernel_rfl) (fun w0 hSw => ?_) ?_
    · skip
      go_simp
    simp only [Act.put, List.getElem_toArray, List.getElem_cons_succ, List.getElem_cons_zero, List.setIfInBounds_toArray, List.set_cons_zero, List.set_cons_succ]
    refine wpDet_take (v := .bool false) rfl (by kernel_rfl) (fun w0 hSw => ?_) ?_
    · skip
      go_simp
    simp only [Act.put, List.getElem_toArray, List.getElem_cons_succ, List.getElem_cons_zero, List.setIfInBounds_toArray, List.set_cons_zero, List.set_cons_succ]
    iterate 12
      refine wpDet_skip rfl (by kernel_rfl) ?_
      simp only [Act.put, List.getElem_toArray, List.getElem_cons_succ, List.getElem_cons_zero, List.setIfInBounds_toArray, List.set_cons_zero, List.set_cons_succ]
    refine wpDet_take (v := .bool false) rfl (by kernel_rfl) (fun w0 hSw => ?_) ?_
    · skip
      go_simp
    simp only [Act.put, List.getElem_toArray, List.getElem_cons_succ, List.getElem_cons_zero, List.setIfInBounds_toArray, List.set_cons_zero, List.set_cons_succ]
    refine wpDet_done (fun V hV => ?_)
    have hBV := hB.trans (hV.mono hB.size)
    clear hV hB k0 e0 e1 e2 e3 hb2 hg3 hg4 hG
    go_wp2
    go_ret
    exact ⟨rfl, hBV⟩
theorem lineTo_of {o te : Int} {x : Lx} {d0 d1 : Int} (h0 : x.ol.getD 0 default = d0) (h1 : lastI x.ol = d1) : (decide (d0 = o) && decide (d1 = te)) = lineTo o te x := by unfold lineTo; rw [h0, h1]
set_option maxRecDepth 100000 in
set_option maxHeartbeats 4000000 in
theorem index_any (l : List Lx) (v : Value) (o te : Int) (g g2 : Nat) (w : World) (h : SlX w w.heap.size v l) (hl2 : ∀ q, q < l.length → 2 ≤ (l.getD q default).ol.length ∧ (l.getD q default).ol.length ≤ 1000000)
    (e2 : w.cell? ⟨g, 0, none⟩ = some (.int .i64 o)) (e3 : w.cell? ⟨g2, 2, none⟩ = some (.int .i64 te)) :
    Calls Tryz.prog 41 #[v, .func (Fn.func 42) #[] #[.pointer (some ⟨g, 0, none⟩), .pointer (some ⟨g2, 0, none⟩)]] w fun e w' => e = .returned (.int .i64 (optI (idxO l o te))) ∧ Below w.heap.size w w' := by
  have HS := Lib.hid h
  have HL := Lib.hid hl2
  have hg : g < w.heap.size := (cell_addr e2).2
  have hg2 : g2 < w.heap.size := (cell_addr e3).2
  have E2 := Lib.hid (fun (W : World) (hb : Below w.heap.size w W) => (hb.cell (p := ⟨g, 0, none⟩) hg).trans e2)
  have E3 := Lib.hid (fun (W : World) (hb : Below w.heap.size w W) => (hb.cell (p := ⟨g2, 2, none⟩) hg2).trans e3)
  obtain ⟨⟨_, A, c, rfl, _⟩, _⟩ := h
  clear hl2 e2 e3 hg hg2
  go_enter Tryz.func41, Tryz.ntmps41
  go_wp2_with fail
  go_loopg [9] l.length (fun gg iv wr => ∃ k : Nat, iv = .int .i64 k ∧ k + gg = l.length ∧ Below w.heap.size w wr ∧ Hid (∀ q, q < k → lineTo o te (l.getD q default) = false))
  case atStart => exact ⟨0, rfl, by omega, Below.refl _ _, fun q hq => by omega⟩
  case round =>
    obtain ⟨k, rfl, hkg, hBr, HA⟩ := hrel
    by_cases hlt : k < l.length
    · obtain ⟨_, A', c', hv, hE⟩ := (HS.out.below hBr).1
      obtain ⟨b, off, rfl, hbb, hE⟩ := hE (by omega)
      cases hv
      obtain ⟨d0, d1, d2, d3, d4, d5⟩ := cellsX hE hlt
      have hok := HS.out.2 k hlt
      have hlen := HL.out k hlt
      have hidx := fun h => findK_some (f := fun q => lineTo o te (l.getD q default)) hlt h HA.out
      obtain ⟨x, hx⟩ : ∃ x, l.getD k default = x := ⟨_, rfl⟩
      rw [hx] at d0 d1 d2 d3 d4 d5 hok hlen hidx
      have HX := Lib.hid hx
      obtain ⟨ov, gv, cl, rm, rv, pv, ol, gl, rl, pl⟩ := x
      obtain ⟨⟨_, a1, c1, z1, y1⟩, ⟨_, a2, c2, z2, _⟩, ⟨_, a3, c3, z3, _⟩, ⟨_, a4, c4, z4, _⟩⟩ := hok
      simp only at d0 d1 d2 d3 d4 d5 z1 z2 z3 z4 y1 hlen
      obtain ⟨m, hm⟩ : ∃ m, ol.length = m + 1 := ⟨ol.length - 1, by omega⟩
      obtain ⟨b1, off1, rfl, hb1, y1⟩ := y1 (by omega)
      have y0 := CellsG.int y1 (show 0 < ol.length by omega)
      have ym := CellsG.int y1 (show m < ol.length by omega)
      have hla : lastI ol = ol.getD m default := by unfold lastI; rw [hm]; rfl
      have hLT := lineTo_of (o := o) (te := te) (x := ⟨ov, gv, cl, rm, rv, pv, ol, gl, rl, pl⟩) rfl hla
      rw [hm] at z1
      have hK := fun (W : World) (hb : Below w.heap.size w W) => next2_any b1 off1 m c1 (ol.getD 0 default) (ol.getD m default) gv cl rm rv pv a2 gl.length c2 a3 rl.length c3 a4 pl.length c4 z2 z3 z4 g g2 o te W (by have := hb.size; omega) (by omega) ((hb.cell (p := ⟨b1, off1, none⟩) hb1).trans y0) ((hb.cell (p := ⟨b1, off1 + m, none⟩) hb1).trans ym) (E2.out W hb) (E3.out W hb)
      subst z1 z2 z3 z4
      have s1 : (0 : Int) ≤ k := by omega
      have s2 : (k : Int) < l.length := by omega
      simp only at hLT
      rw [hLT] at hK
      have hxx : lineTo o te (l.getD k default) = lineTo o te ⟨.slice (some ⟨b1, off1, none⟩) (m + 1) c1, .slice a2 gl.length c2, cl, rm, .slice a3 rl.length c3, .slice a4 pl.length c4, ol, gl, rl, pl⟩ := by rw [HX.out]
      clear hE hx y1 y0 ym hla hLT hlen
      obtain ⟨B, hB⟩ : ∃ B, lineTo o te ⟨.slice (some ⟨b1, off1, none⟩) (m + 1) c1, .slice a2 gl.length c2, cl, rm, .slice a3 rl.length c3, .slice a4 pl.length c4, ol, gl, rl, pl⟩ = B := ⟨_, rfl⟩
      rw [hB] at hK hxx hidx
      have HXX := Lib.hid hxx
      have HK := Lib.hid hK
      clear hK hB hxx
      have hBa := hBr.alloc hBr.size (.cells #[.slice (some ⟨b1, off1, none⟩) (m + 1) c1, .slice a2 gl.length c2, .int .i64 cl, .int .i64 rm, .slice a3 rl.length c3, .slice a4 pl.length c4] 68)
      cases B with
      | true =>
        have hi : idxO l o te = some k := hidx rfl
        have HI := Lib.hid hi
        clear hidx hi
        go_wp2_with (go_at_call 42; (with_reducible refine (HK.out _ hBa).mono ?_); rintro e w1 ⟨rfl, hb⟩)
        go_ret
        exact ⟨by rw [HI.out]; rfl, hBa.trans (hb.mono hBa.size)⟩
      | false =>
        clear hidx
        go_wp2_with (go_at_call 42; (with_reducible refine (HK.out _ hBa).mono ?_); rintro e w1 ⟨rfl, hb⟩)
        go_roundg (gk - 1)
        case measure => omega
        case rel => exact ⟨k + 1, by first | rfl | go_num, by omega, hBa.trans (hb.mono hBa.size), fun q hq => by
          by_cases hqk : q = k
          · subst hqk; exact HXX.out
          · exact HA.out q (by omega)⟩
    · obtain rfl : k = l.length := by omega
      have hi : idxO l o te = none := findK_none HA.out
      have HI := Lib.hid hi
      clear hi
      go_wp2_with fail
      go_ret
      exact ⟨by rw [HI.out]; rfl, hBr⟩
end Go.Proofs.YthckledagggoiaaGreatDoor
