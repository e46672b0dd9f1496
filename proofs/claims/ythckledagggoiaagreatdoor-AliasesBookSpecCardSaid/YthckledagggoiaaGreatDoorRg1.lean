import Derived.Test.YthckledagggoiaaGreatDoorPh
import Derived.Test.YthckledagggoiaaGreatDoorMap
set_option linter.unusedSimpArgs false
set_option linter.unusedVariables false
namespace Go.Proofs.YthckledagggoiaaGreatDoor
open Go.RowKit Fk
/-! The registry: entries; what one must be. -/
structure En where
  no : Int
  kind : Int
  a : Int
  b : Int
  from_ : Int
  until_ : Int
  known : Int
  gone : Int
instance : Inhabited En := ⟨⟨0, 0, 0, 0, 0, 0, 0, 0⟩⟩
def En.cells (x : En) : List Value := [.int .i64 x.no, .int .i64 x.kind, .int .i64 x.a, .int .i64 x.b, .int .i64 x.from_, .int .i64 x.until_, .int .i64 x.known, .int .i64 x.gone]
def En.val (x : En) : Value := .agg #[.int .i64 x.no, .int .i64 x.kind, .int .i64 x.a, .int .i64 x.b, .int .i64 x.from_, .int .i64 x.until_, .int .i64 x.known, .int .i64 x.gone]
def idB (n : Int) : Bool := decide (0 ≤ n) && decide (n ≤ 1048576)
def spanB (f u : Int) : Bool := decide (0 ≤ f) && (decide (f < u) && decide (u ≤ 2097152))
def livesB (b : Int) : Bool := decide (0 ≤ b) && decide (b < 24)
def agentB (a b : Int) : Bool := (a != b) && idB b
def kindB (k a b : Int) : Bool := if k = 1 then livesB b else if k = 2 then agentB a b else if k = 3 ∨ k = 4 then b == 0 else false
def validB (x : En) : Bool := kindB x.kind x.a x.b && (idB x.no && (idB x.a && (spanB x.from_ x.until_ && spanB x.known x.gone)))
theorem st8e {w : World} {g : Nat} {t : TypeId} {a0 a1 a2 a3 a4 a5 a6 a7 : Value} (h : Row w g t [a0, a1, a2, a3, a4, a5, a6, a7]) : w.cell? ⟨g, 0, none⟩ = some a0 ∧ w.cell? ⟨g, 1, none⟩ = some a1 ∧ w.cell? ⟨g, 2, none⟩ = some a2 ∧ w.cell? ⟨g, 3, none⟩ = some a3 ∧
    w.cell? ⟨g, 4, none⟩ = some a4 ∧ w.cell? ⟨g, 5, none⟩ = some a5 ∧ w.cell? ⟨g, 6, none⟩ = some a6 ∧ w.cell? ⟨g, 7, none⟩ = some a7 := ⟨h.cell 0, h.cell 1, h.cell 2, h.cell 3, h.cell 4, h.cell 5, h.cell 6, h.cell 7⟩
set_option maxHeartbeats 400000 in
theorem rid_any (n : Int) (w : World) : Calls Tryz.prog 168 #[.int .i64 n] w fun e w' => e = .returned (.bool (idB n)) ∧ w' = w := by
  unfold idB
  by_cases h1 : 0 ≤ n
  · rw [decide_eq_true h1, Bool.true_and]
    by_cases h2 : n ≤ 1048576
    · rw [decide_eq_true h2]
      go_enter Tryz.func168, Tryz.ntmps168
      go_wp2
      go_ret
      exact ⟨rfl, rfl⟩
    · rw [decide_eq_false h2]
      go_enter Tryz.func168, Tryz.ntmps168
      go_wp2
      go_ret
      exact ⟨rfl, rfl⟩
  · rw [decide_eq_false h1, Bool.false_and]
    go_enter Tryz.func168, Tryz.ntmps168
    go_wp2
    go_ret
    exact ⟨rfl, rfl⟩
set_option maxHeartbeats 400000 in
theorem rspan_any (f u : Int) (w : World) : Calls Tryz.prog 169 #[.int .i64 f, .int .i64 u] w fun e w' => e = .returned (.bool (spanB f u)) ∧ w' = w := by
  unfold spanB
  by_cases h1 : 0 ≤ f
  · rw [decide_eq_true h1, Bool.true_and]
    by_cases h2 : f < u
    · rw [decide_eq_true h2, Bool.true_and]
      by_cases h3 : u ≤ 2097152
      · rw [decide_eq_true h3]
        go_enter Tryz.func169, Tryz.ntmps169
        go_wp2
        go_ret
        exact ⟨rfl, rfl⟩
      · rw [decide_eq_false h3]
        go_enter Tryz.func169, Tryz.ntmps169
        go_wp2
        go_ret
        exact ⟨rfl, rfl⟩
    · rw [decide_eq_false h2, Bool.false_and]
      go_enter Tryz.func169, Tryz.ntmps169
      go_wp2
      go_ret
      exact ⟨rfl, rfl⟩
  · rw [decide_eq_false h1, Bool.false_and]
    go_enter Tryz.func169, Tryz.ntmps169
    go_wp2
    go_ret
    exact ⟨rfl, rfl⟩
set_option maxHeartbeats 400000 in
theorem kinds1_any (a b : Int) (w : World) : Calls Tryz.prog 184 #[.int .i64 a, .int .i64 b] w fun e w' => e = .returned (.bool (b == 0)) ∧ w' = w := by
  go_enter Tryz.func184, Tryz.ntmps184
  go_wp2
  go_ret
  exact ⟨by first | rfl | simp, rfl⟩
set_option maxHeartbeats 400000 in
theorem kinds2_any (a b : Int) (w : World) : Calls Tryz.prog 185 #[.int .i64 a, .int .i64 b] w fun e w' => e = .returned (.bool (livesB b)) ∧ w' = w := by
  unfold livesB
  by_cases h1 : 0 ≤ b
  · rw [decide_eq_true h1, Bool.true_and]
    by_cases h2 : b < 24
    · rw [decide_eq_true h2]
      go_enter Tryz.func185, Tryz.ntmps185
      go_wp2
      go_ret
      exact ⟨rfl, rfl⟩
    · rw [decide_eq_false h2]
      go_enter Tryz.func185, Tryz.ntmps185
      go_wp2
      go_ret
      exact ⟨rfl, rfl⟩
  · rw [decide_eq_false h1, Bool.false_and]
    go_enter Tryz.func185, Tryz.ntmps185
    go_wp2
    go_ret
    exact ⟨rfl, rfl⟩
set_option maxHeartbeats 400000 in
theorem kinds3_any (a b : Int) (w : World) : Calls Tryz.prog 186 #[.int .i64 a, .int .i64 b] w fun e w' => e = .returned (.bool (agentB a b)) ∧ w' = w := by
  unfold agentB
  have HI := Lib.hid (rid_any b)
  cases h1 : (a != b) with
  | false =>
    go_enter Tryz.func186, Tryz.ntmps186
    go_wp2
    go_ret
    exact ⟨rfl, rfl⟩
  | true =>
    go_enter Tryz.func186, Tryz.ntmps186
    go_wp2_with (go_at_call 168; (with_reducible refine (HI.out _).mono ?_); rintro e w1 ⟨rfl, rfl⟩)
    go_ret
    exact ⟨by first | rfl | simp, rfl⟩
theorem law_int : KeyV Tryz.prog 3 (Value.int .i64) := intKeyV Tryz.underlying3
abbrev fnV (n : Nat) : Value := .func (Fn.func n) #[] #[]
noncomputable def kindF : Int → Option Value := updF (updF (updF (updF (fun _ => none) 1 (fnV 185)) 2 (fnV 186)) 3 (fnV 184)) 4 (fnV 184)
theorem kindF_1 : kindF 1 = some (fnV 185) := by unfold kindF; rw [updF_ne _ _ (by decide), updF_ne _ _ (by decide), updF_ne _ _ (by decide), updF_same]
theorem kindF_2 : kindF 2 = some (fnV 186) := by unfold kindF; rw [updF_ne _ _ (by decide), updF_ne _ _ (by decide), updF_same]
theorem kindF_3 : kindF 3 = some (fnV 184) := by unfold kindF; rw [updF_ne _ _ (by decide), updF_same]
theorem kindF_4 : kindF 4 = some (fnV 184) := by unfold kindF; rw [updF_same]
theorem kindF_no {k : Int} (h1 : k ≠ 1) (h2 : k ≠ 2) (h3 : k ≠ 3) (h4 : k ≠ 4) : kindF k = none := by unfold kindF; rw [updF_ne _ _ h4, updF_ne _ _ h3, updF_ne _ _ h2, updF_ne _ _ h1]
set_option maxRecDepth 100000 in
set_option maxHeartbeats 2000000 in
theorem kinds_any (w : World) : Calls Tryz.prog 167 #[] w fun e w' => ∃ b, e = .returned (.map (some b)) ∧ Below w.heap.size w w' ∧ MapK (Value.int .i64) w' b kindF := by
  have hmm := @run_makeMap Tryz.prog
  have h0 := Lib.hid (MapK.made (Value.int .i64) w)
  have hB := Lib.hid (below_alloc' w (.map #[] 0))
  go_enter Tryz.func167, Tryz.ntmps167
  go_wp2_with (first
    | (refine wpList_put rfl _ _ _ _ (.inr rfl) _ _ law_int Tryz.underlying217 _ _ rfl H3 4 rfl _ rfl ?_; intro w4 H4 G4)
    | (refine wpList_put rfl _ _ _ _ (.inr rfl) _ _ law_int Tryz.underlying217 _ _ rfl H2 3 rfl _ rfl ?_; intro w3 H3 G3)
    | (refine wpList_put rfl _ _ _ _ (.inr rfl) _ _ law_int Tryz.underlying217 _ _ rfl H1 2 rfl _ rfl ?_; intro w2 H2 G2)
    | (refine wpList_put rfl _ _ _ _ (.inr rfl) _ _ law_int Tryz.underlying217 _ _ rfl h0.out 1 rfl _ rfl ?_; intro w1 H1 G1))
  go_ret
  have hz : w.heap.size ≤ (w.alloc (.map #[] 0)).heap.size := hB.out.size
  have gg : ∀ {X Y : World}, Below w.heap.size w X → X.grownBy Y (some w.heap.size) → Below w.heap.size w Y := fun hx hy => hx.grown hy hx.size (fun r e => by cases e; exact Nat.le_refl _)
  exact ⟨_, rfl, gg (gg (gg (gg hB.out G1) G2) G3) G4, H4⟩
end Go.Proofs.YthckledagggoiaaGreatDoor
