import Derived.Test.YthckledagggoiaaGreatDoorZFtA
import Derived.Test.YthckledagggoiaaGreatDoorZMh
import Derived.Test.YthckledagggoiaaGreatDoorZAsL2
import Derived.Deep.Cut
set_option linter.unusedSimpArgs false
set_option linter.unusedVariables false
namespace Go.Proofs.YthckledagggoiaaGreatDoor
open Go.RowKit Go.Shelf Fk Sha
/-! forward.Next: what it computes; its state. -/
def homeF (t : Int × Int × Int) : Fw := ⟨t.1, t.2.1, t.2.2, 0, 0, 0, 0, zeroD⟩
def fullF (t : Int × Int × Int) (line key al r : Int) : Fw := ⟨t.1, t.2.1, t.2.2, line, key, makeA r, makeB key al r, tagN line key (makeA r) (makeB key al r)⟩
theorem fullF_cells (t : Int × Int × Int) (line key al r : Int) : (fullF t line key al r).cells = [.int .i64 t.1, .int .i64 t.2.1, .int .i64 t.2.2] ++ makeC line key al r := by simp only [Fw.cells, fullF, makeC]
def chkK (l : List Lx) (keys : List Int) (s people office : Int) : Int := fchkE keys.length l.length (keys.all vld) s people office
def moreR (l : List Lx) (keys : List Int) (s office r : Int) (h : Int × Int × Int) : Fw × Int :=
  if h.1 ≠ 1 ∨ h.2.2 = office then (homeF h, 0) else
  match idxO l office h.2.2 with
  | none => (homeF (2, h.2.1, 0), 0)
  | some k => if ckE s h.2.2 (idP h.2.1) ≠ 0 then (zeroF, ckE s h.2.2 (idP h.2.1)) else (fullF h k (keys.getD k default) (aliasA s h.2.1 h.2.2) r, 0)
def nextR (l : List Lx) (n : Int) (keys : List Int) (s : Int) (en : List En) (people office al day time r : Int) : Fw × Int :=
  if ttE l n ≠ 0 then (zeroF, ttE l n) else
  if chkK l keys s people office ≠ 0 then (zeroF, chkK l keys s people office) else
  if (findV s people office al).2 = false then (zeroF, 350) else
  if openE en (findV s people office al).1 day time ≠ 0 then (zeroF, openE en (findV s people office al).1 day time) else
  moreR l keys s office r (whereH en (findV s people office al).1 day time)
def NxS (w W : World) (n : Int) (v : Value) (office : Int) (x : Fw) (E : Int) : Prop :=
  Below w.heap.size w W ∧ Row W w.heap.size 24 [.int .i64 n, v] ∧ Row W (w.heap.size + 1) 3 [.int .i64 office] ∧ Row W (w.heap.size + 2) 38 x.cells ∧ Row W (w.heap.size + 3) 39 [.int .i64 E]
theorem NxS.below {w W W' : World} {n : Int} {v : Value} {o : Int} {x : Fw} {E : Int} (h : NxS w W n v o x E) (hb : Below W.heap.size W W') : NxS w W' n v o x E :=
  ⟨h.1.trans (hb.mono h.1.size), h.2.1.below hb h.2.1.lt, h.2.2.1.below hb h.2.2.1.lt, h.2.2.2.1.below hb h.2.2.2.1.lt, h.2.2.2.2.below hb h.2.2.2.2.lt⟩
theorem NxS.bel {w W : World} {n : Int} {v : Value} {o : Int} {x : Fw} {E : Int} (h : NxS w W n v o x E) : Below w.heap.size w W := h.1
theorem NxS.setE {w W : World} {n : Int} {v : Value} {o : Int} {x : Fw} {E : Int} (h : NxS w W n v o x E) (E' : Int) : NxS w (W.setCell ⟨w.heap.size + 3, 0, none⟩ (.int .i64 E')) n v o x E' :=
  ⟨h.1.setCell (p := ⟨w.heap.size + 3, 0, none⟩) (by simp) _, h.2.1.other (by simp) _, h.2.2.1.other (by simp) _, h.2.2.2.1.other (by simp) _, h.2.2.2.2.store 0 _⟩
theorem NxS.setX {w W : World} {n : Int} {v : Value} {o : Int} {x : Fw} {E : Int} (h : NxS w W n v o x E) (y : Fw) : NxS w (W.setRow (w.heap.size + 2) y.cells.toArray) n v o y E :=
  ⟨below_setRow h.1 (by simp) _, Row.setOther h.2.1 (by simp) _, Row.setOther h.2.2.1 (by simp) _, Row.part h.2.2.2.1 _, Row.setOther h.2.2.2.2 (by simp) _⟩
theorem NxS.home {w W : World} {n : Int} {v : Value} {o : Int} {E : Int} (h : NxS w W n v o zeroF E) (t : Int × Int × Int) :
    NxS w (((W.setCell ⟨w.heap.size + 2, 0, none⟩ (.int .i64 t.1)).setCell ⟨w.heap.size + 2, 1, none⟩ (.int .i64 t.2.1)).setCell ⟨w.heap.size + 2, 2, none⟩ (.int .i64 t.2.2)) n v o (homeF t) E :=
  ⟨((h.1.setCell (p := ⟨w.heap.size + 2, 0, none⟩) (by simp) _).setCell (p := ⟨w.heap.size + 2, 1, none⟩) (by simp) _).setCell (p := ⟨w.heap.size + 2, 2, none⟩) (by simp) _,
   ((h.2.1.other (by simp) _).other (by simp) _).other (by simp) _, ((h.2.2.1.other (by simp) _).other (by simp) _).other (by simp) _, ((h.2.2.2.1.store 0 _).store 1 _).store 2 _, ((h.2.2.2.2.other (by simp) _).other (by simp) _).other (by simp) _⟩
theorem NxS.facts {w W : World} {n : Int} {v : Value} {o : Int} {x : Fw} {E : Int} (h : NxS w W n v o x E) {a b c : Int} (ha : x.k = a) (hb : x.p = b) (hc : x.o = c) :
    (W.cell? ⟨w.heap.size, 0, none⟩ = some (.int .i64 n) ∧ W.cell? ⟨w.heap.size, 1, none⟩ = some v ∧ W.cell? ⟨w.heap.size + 1, 0, none⟩ = some (.int .i64 o)) ∧
    (W.cell? ⟨w.heap.size + 2, 0, none⟩ = some (.int .i64 a) ∧ W.cell? ⟨w.heap.size + 2, 1, none⟩ = some (.int .i64 b) ∧ W.cell? ⟨w.heap.size + 2, 2, none⟩ = some (.int .i64 c)) ∧
    W.cell? ⟨w.heap.size + 3, 0, none⟩ = some (.int .i64 E) ∧
    (W.frozen? ⟨w.heap.size + 2, 0, none⟩ = false ∧ W.frozen? ⟨w.heap.size + 2, 1, none⟩ = false ∧ W.frozen? ⟨w.heap.size + 2, 2, none⟩ = false ∧ W.frozen? ⟨w.heap.size + 3, 0, none⟩ = false) ∧ w.heap.size + 3 < W.heap.size := by
  subst ha hb hc
  exact ⟨⟨h.2.1.cell 0, h.2.1.cell 1, h.2.2.1.cell 0⟩, ⟨h.2.2.2.1.cell 0, h.2.2.2.1.cell 1, h.2.2.2.1.cell 2⟩, h.2.2.2.2.cell 0, ⟨h.2.2.2.1.frozen 0, h.2.2.2.1.frozen 1, h.2.2.2.1.frozen 2, h.2.2.2.2.frozen 0⟩, h.2.2.2.2.lt⟩
theorem ret_next (tmps : Array Value) (W : World) (g : Nat) (cs : List Value) (E : Int) (hl : cs.length = 39) (h20 : tmps[20]?.getD undef = .pointer (some ⟨g, 0, none⟩)) (h21 : tmps[21]?.getD undef = .pointer (some ⟨g + 1, 0, none⟩)) (hr : Row W g 38 cs) (hr2 : Row W (g + 1) 39 [.int .i64 E]) :
    (results Tryz.f11 tmps).run Tryz.prog W = .ok (.tuple #[.agg cs.toArray, .int .i64 E]) W := by
  have hinf : (Tryz.prog.info? 38).map (·.size) = some 39 := by kernel_rfl
  have h := run_loadVar_row (P := Tryz.prog) W g 38 38 cs.toArray (0, 0) _ hr Tryz.underlying38 rfl (by rw [hinf]; simp [hl])
  have c : W.cell? ⟨g + 1, 0, none⟩ = some (.int .i64 E) := hr2.cell 0
  have h2 : (loadVar 39 ⟨g + 1, 0, none⟩).run Tryz.prog W = .ok (.int .i64 E) W := by simp [go_sem, c]
  simp [results, Tryz.f11, h20, h21, asAddr, h, h2]
abbrev fwV (x : Fw) (E : Int) : Value := .tuple #[.agg x.cells.toArray, .int .i64 E]
theorem leaves_end {P : Program} {fn : Func} {tmps : Array Value} {R : Ending → World → Prop} {w : World} {v : Value} (h : (results fn tmps).run P w = .ok v w) (hR : R (.returned v) w) : Leaves P fn tmps R [] .returning w := ⟨v, h, hR⟩
theorem chkK_0 {l : List Lx} {keys : List Int} {s people office : Int} (h : chkK l keys s people office = 0) : keys.length = l.length ∧ keys.all vld = true ∧ ckE s office (manyP people) = 0 ∧ (1 ≤ s ∧ s < 1073741789) ∧ (0 ≤ office ∧ office < 24) ∧ (0 ≤ people ∧ people ≤ 1024) := by
  unfold chkK fchkE at h
  by_cases h1 : (keys.length : Int) = l.length
  · rw [decide_eq_true h1, if_pos rfl] at h
    cases h2 : keys.all vld with
    | false => rw [h2] at h; simp at h
    | true =>
      rw [h2, if_pos rfl] at h
      cases h3 : secK s with
      | false => rw [h3] at h; simp at h
      | true =>
        rw [h3, if_pos rfl] at h
        cases h4 : offB office with
        | false => rw [h4] at h; simp at h
        | true =>
          rw [h4, if_pos rfl] at h
          cases h5 : manyP people with
          | false => rw [h5] at h; simp at h
          | true =>
            refine ⟨by omega, rfl, by unfold ckE; rw [h3, h4]; rfl, ?_⟩
            unfold secK at h3
            unfold offB at h4
            unfold manyP at h5
            simp only [Bool.and_eq_true, decide_eq_true_eq] at h3 h4 h5
            exact ⟨h3, h4, h5⟩
  · rw [decide_eq_false h1] at h
    simp at h
theorem ttE_0 {l : List Lx} {n : Int} (h : ttE l n = 0) : l.length ≤ 64 ∧ (0 ≤ n ∧ n ≤ 24) ∧ (∀ q, q < l.length → lineB (l.getD q default) n = true) ∧ calsE l = 0 := by
  unfold ttE at h
  by_cases h1 : 64 < l.length
  · rw [if_pos h1] at h; cases h
  · rw [if_neg h1] at h
    cases h2 : btwB n 0 24 with
    | false => rw [h2] at h; simp at h
    | true =>
      rw [h2, if_pos rfl] at h
      cases h3 : linesB l n with
      | false => rw [ttQ_no h3] at h; cases h
      | true =>
        rw [ttQ_yes h3] at h
        unfold btwB at h2
        simp only [Bool.and_eq_true, decide_eq_true_eq] at h2
        exact ⟨by omega, h2, fun q hq => allN_get h3 hq, h⟩
theorem lineB_len {x : Lx} {n : Int} (h : lineB x n = true) : 2 ≤ x.ol.length ∧ x.ol.length ≤ 9 := by
  unfold lineB sizedB btwB at h
  simp only [Bool.and_eq_true, decide_eq_true_eq] at h
  omega
theorem ttE_len {l : List Lx} {n : Int} (h : ttE l n = 0) : ∀ q, q < l.length → 2 ≤ (l.getD q default).ol.length ∧ (l.getD q default).ol.length ≤ 1000000 := fun q hq => by
  have := lineB_len ((ttE_0 h).2.2.1 q hq)
  omega
theorem all_at {l : List Int} (h : l.all vld = true) {k : Nat} (hk : k < l.length) : vld (l.getD k default) = true := by
  rw [List.all_eq_true] at h
  refine h _ ?_
  rw [getD_at hk]
  exact List.getElem_mem hk
theorem full_store {W : World} {g : Nat} {a b d : Int} {ms : List Value} (h : Row W g 38 (homeF (a, b, d)).cells) (hm : ms.length = 36) (h1 : ∀ v ∈ ms, v.oneCell' = true) :
    (storeCells ⟨g, 3, none⟩ ms).run Tryz.prog W = .ok () (W.setRow g (([.int .i64 a, .int .i64 b, .int .i64 d] : List Value) ++ ms).toArray) := by
  have := store_part (o := 3) h1 h (by rw [hm, Fw.len (by simp [homeF, zeroD])]; exact Nat.le_refl _)
  have e : (homeF (a, b, d)).cells.take 3 ++ ms ++ (homeF (a, b, d)).cells.drop (3 + ms.length) = ([.int .i64 a, .int .i64 b, .int .i64 d] : List Value) ++ ms := by
    rw [List.drop_of_length_le (by rw [hm, Fw.len (by simp [homeF, zeroD])]; exact Nat.le_refl _), List.append_nil]
    rfl
  rw [e] at this
  exact this
theorem nx_start (w : World) (n : Int) (v : Value) (o : Int) : NxS w ((((w.alloc (.cells #[.int .i64 n, v] 24)).alloc (.cells #[.int .i64 o] 3)).alloc (.cells zeroF.cells.toArray 38)).alloc (.cells #[.int .i64 0] 39)) n v o zeroF 0 := by
  have a0 := Row.new w 24 [.int .i64 n, v]
  have B0 := below_alloc' w (.cells #[.int .i64 n, v] 24)
  have s0 : (w.alloc (.cells #[.int .i64 n, v] 24)).heap.size = w.heap.size + 1 := by simp
  generalize w.alloc (.cells #[.int .i64 n, v] 24) = W0 at *
  have a1 := Row.new W0 3 [.int .i64 o]
  have a0 := a0.alloc (.cells #[.int .i64 o] 3)
  have B1 := B0.alloc B0.size (.cells #[.int .i64 o] 3)
  have s1 : (W0.alloc (.cells #[.int .i64 o] 3)).heap.size = w.heap.size + 2 := by simp [s0]
  rw [s0] at a1
  generalize W0.alloc (.cells #[.int .i64 o] 3) = W1 at *
  have a2 := Row.new W1 38 zeroF.cells
  have a0 := a0.alloc (.cells zeroF.cells.toArray 38)
  have a1 := a1.alloc (.cells zeroF.cells.toArray 38)
  have B2 := B1.alloc B1.size (.cells zeroF.cells.toArray 38)
  have s2 : (W1.alloc (.cells zeroF.cells.toArray 38)).heap.size = w.heap.size + 3 := by simp [s1]
  rw [s1] at a2
  generalize W1.alloc (.cells zeroF.cells.toArray 38) = W2 at *
  have a3 := Row.new W2 39 [.int .i64 0]
  rw [s2] at a3
  exact ⟨B2.alloc B2.size _, a0.alloc _, a1.alloc _, a2.alloc _, a3⟩
end Go.Proofs.YthckledagggoiaaGreatDoor
