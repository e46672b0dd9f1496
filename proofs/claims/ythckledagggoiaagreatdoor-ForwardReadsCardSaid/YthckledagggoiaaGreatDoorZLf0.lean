import Derived.Test.YthckledagggoiaaGreatDoorZSc2
set_option linter.unusedSimpArgs false
set_option linter.unusedVariables false
namespace Go.Proofs.YthckledagggoiaaGreatDoor
open Go.RowKit Go.Shelf Fk Sha
/-! The states of ForwardReads. -/
structure O4 where
  a : Int
  b : Int
  c : Int
  d : Int
def O4.val (x : O4) : Value := .agg #[.int .i64 x.a, .int .i64 x.b, .int .i64 x.c, .int .i64 x.d]
structure P2 where
  p : Int
  q : Int
def P2.val (x : P2) : Value := .agg #[.int .i64 x.p, .int .i64 x.q]
structure RS (w W : World) (n : Int) (v : Value) (o : O4) (x : P2) (m : Tr) : Prop where
  bel : Below w.heap.size w W
  r0 : Row W w.heap.size 24 [.int .i64 n, v]
  r1 : Row W (w.heap.size + 1) 58 [.int .i64 o.a, .int .i64 o.b, .int .i64 o.c, .int .i64 o.d]
  r2 : Row W (w.heap.size + 1 + 1) 59 [.int .i64 x.p, .int .i64 x.q]
  r3 : Row W (w.heap.size + 1 + 1 + 1) 60 [.int .i64 m.p, .int .i64 m.q, .int .i64 m.r]
section
variable {w W W' : World} {n : Int} {v : Value} {o : O4} {x : P2} {m : Tr}
theorem RS.below (h : RS w W n v o x m) (hb : Below W.heap.size W W') : RS w W' n v o x m :=
  ⟨h.bel.trans (hb.mono h.bel.size), h.r0.below hb h.r0.lt, h.r1.below hb h.r1.lt, h.r2.below hb h.r2.lt, h.r3.below hb h.r3.lt⟩
theorem RS.cells (h : RS w W n v o x m) : (W.cell? ⟨w.heap.size, 0, none⟩ = some (.int .i64 n) ∧ W.cell? ⟨w.heap.size, 1, none⟩ = some v) ∧
    (W.cell? ⟨w.heap.size + 1, 0, none⟩ = some (.int .i64 o.a) ∧ W.cell? ⟨w.heap.size + 1, 1, none⟩ = some (.int .i64 o.b) ∧ W.cell? ⟨w.heap.size + 1, 2, none⟩ = some (.int .i64 o.c) ∧ W.cell? ⟨w.heap.size + 1, 3, none⟩ = some (.int .i64 o.d)) ∧
    (W.cell? ⟨w.heap.size + 1 + 1, 0, none⟩ = some (.int .i64 x.p) ∧ W.cell? ⟨w.heap.size + 1 + 1, 1, none⟩ = some (.int .i64 x.q)) ∧
    W.cell? ⟨w.heap.size + 1 + 1 + 1, 0, none⟩ = some (.int .i64 m.p) ∧ W.cell? ⟨w.heap.size + 1 + 1 + 1, 1, none⟩ = some (.int .i64 m.q) ∧ W.cell? ⟨w.heap.size + 1 + 1 + 1, 2, none⟩ = some (.int .i64 m.r) :=
  ⟨⟨h.r0.cell 0, h.r0.cell 1⟩, ⟨h.r1.cell 0, h.r1.cell 1, h.r1.cell 2, h.r1.cell 3⟩, ⟨h.r2.cell 0, h.r2.cell 1⟩, h.r3.cell 0, h.r3.cell 1, h.r3.cell 2⟩
theorem RS.start (w : World) (n : Int) (v : Value) (o : O4) (x : P2) (m : Tr) :
    RS w ((((w.alloc (.cells #[.int .i64 n, v] 24)).alloc (.cells #[.int .i64 o.a, .int .i64 o.b, .int .i64 o.c, .int .i64 o.d] 58)).alloc (.cells #[.int .i64 x.p, .int .i64 x.q] 59)).alloc (.cells #[.int .i64 m.p, .int .i64 m.q, .int .i64 m.r] 60)) n v o x m := by
  have a0 := Row.new w 24 [.int .i64 n, v]
  have B0 := below_alloc' w (.cells #[.int .i64 n, v] 24)
  have s0 : (w.alloc (.cells #[.int .i64 n, v] 24)).heap.size = w.heap.size + 1 := by simp
  generalize w.alloc (.cells #[.int .i64 n, v] 24) = W0 at *
  have a1 := Row.new W0 58 [.int .i64 o.a, .int .i64 o.b, .int .i64 o.c, .int .i64 o.d]
  have a0 := a0.alloc (.cells #[.int .i64 o.a, .int .i64 o.b, .int .i64 o.c, .int .i64 o.d] 58)
  have B1 := B0.alloc B0.size (.cells #[.int .i64 o.a, .int .i64 o.b, .int .i64 o.c, .int .i64 o.d] 58)
  have s1 : (W0.alloc (.cells #[.int .i64 o.a, .int .i64 o.b, .int .i64 o.c, .int .i64 o.d] 58)).heap.size = w.heap.size + 1 + 1 := by simp [s0]
  rw [s0] at a1
  generalize W0.alloc (.cells #[.int .i64 o.a, .int .i64 o.b, .int .i64 o.c, .int .i64 o.d] 58) = W1 at *
  have a2 := Row.new W1 59 [.int .i64 x.p, .int .i64 x.q]
  have a0 := a0.alloc (.cells #[.int .i64 x.p, .int .i64 x.q] 59)
  have a1 := a1.alloc (.cells #[.int .i64 x.p, .int .i64 x.q] 59)
  have B2 := B1.alloc B1.size (.cells #[.int .i64 x.p, .int .i64 x.q] 59)
  have s2 : (W1.alloc (.cells #[.int .i64 x.p, .int .i64 x.q] 59)).heap.size = w.heap.size + 1 + 1 + 1 := by simp [s1]
  rw [s1] at a2
  generalize W1.alloc (.cells #[.int .i64 x.p, .int .i64 x.q] 59) = W2 at *
  have a3 := Row.new W2 60 [.int .i64 m.p, .int .i64 m.q, .int .i64 m.r]
  rw [s2] at a3
  exact ⟨B2.alloc B2.size _, a0.alloc _, a1.alloc _, a2.alloc _, a3⟩
/-- the forwarding stands too -/
structure RX (w W : World) (n : Int) (v : Value) (o : O4) (x : P2) (m : Tr) (G : Nat) (Y : Fw) : Prop where
  rs : RS w W n v o x m
  rx : Row W G 38 Y.cells
  lo : w.heap.size + 1 + 1 + 1 < G
variable {G : Nat} {Y : Fw}
theorem RX.below (h : RX w W n v o x m G Y) (hb : Below W.heap.size W W') : RX w W' n v o x m G Y := ⟨h.rs.below hb, h.rx.below hb h.rx.lt, h.lo⟩
theorem RX.home (h : RX w W n v o x m G Y) : W.cell? ⟨G, 0, none⟩ = some (.int .i64 Y.k) ∧ W.cell? ⟨G, 1, none⟩ = some (.int .i64 Y.p) ∧ W.cell? ⟨G, 2, none⟩ = some (.int .i64 Y.o) ∧ W.cell? ⟨G, 3, none⟩ = some (.int .i64 Y.line) :=
  ⟨h.rx.cell 0, h.rx.cell 1, h.rx.cell 2, h.rx.cell 3⟩
/-- the letter stands too, and what lay in the world K -/
structure RL (K w W : World) (n : Int) (v : Value) (o : O4) (x : P2) (m : Tr) (G : Nat) (Y : Fw) (H : Nat) (s : Se) : Prop where
  x : RX w W n v o x m G Y
  rl : Row W H 70 s.cells
  hi : G < H
  bk : Below K.heap.size K W
  hk : K.heap.size ≤ H
variable {K : World} {H : Nat} {s : Se}
theorem RL.below (h : RL K w W n v o x m G Y H s) (hb : Below W.heap.size W W') : RL K w W' n v o x m G Y H s := ⟨h.x.below hb, h.rl.below hb h.rl.lt, h.hi, h.bk.trans (hb.mono h.bk.size), h.hk⟩
theorem RL.letter (h : RL K w W n v o x m G Y H s) : (W.cell? ⟨H, 0, none⟩ = some (.int .i64 s.x.a) ∧ W.cell? ⟨H, 1, none⟩ = some (.int .i64 s.x.b) ∧ W.cell? ⟨H, 2, none⟩ = some (.int .i64 s.y.a) ∧ W.cell? ⟨H, 3, none⟩ = some (.int .i64 s.y.b) ∧ W.cell? ⟨H, 4, none⟩ = some (.int .i64 s.z.a) ∧ W.cell? ⟨H, 5, none⟩ = some (.int .i64 s.z.b)) ∧
    W.frozen? ⟨H, 0, none⟩ = false ∧ W.frozen? ⟨H, 1, none⟩ = false ∧ W.frozen? ⟨H, 2, none⟩ = false ∧ W.frozen? ⟨H, 3, none⟩ = false ∧ W.frozen? ⟨H, 4, none⟩ = false ∧ W.frozen? ⟨H, 5, none⟩ = false :=
  ⟨⟨h.rl.cell 0, h.rl.cell 1, h.rl.cell 2, h.rl.cell 3, h.rl.cell 4, h.rl.cell 5⟩, h.rl.frozen 0, h.rl.frozen 1, h.rl.frozen 2, h.rl.frozen 3, h.rl.frozen 4, h.rl.frozen 5⟩
theorem RS.cell_other (h : RS w W n v o x m) {H : Nat} (hH : w.heap.size + 1 + 1 + 1 < H) (i : Nat) (u : Value) : RS w (W.setCell ⟨H, i, none⟩ u) n v o x m :=
  ⟨h.bel.setCell (p := ⟨H, i, none⟩) (by simp only []; omega) _, h.r0.other (by simp only []; omega) _, h.r1.other (by simp only []; omega) _, h.r2.other (by simp only []; omega) _, h.r3.other (by simp only []; omega) _⟩
theorem RL.set (h : RL K w W n v o x m G Y H s) (s' : Se) :
    RL K w ((((((W.setCell ⟨H, 0, none⟩ (.int .i64 s'.x.a)).setCell ⟨H, 1, none⟩ (.int .i64 s'.x.b)).setCell ⟨H, 2, none⟩ (.int .i64 s'.y.a)).setCell ⟨H, 3, none⟩ (.int .i64 s'.y.b)).setCell ⟨H, 4, none⟩ (.int .i64 s'.z.a)).setCell ⟨H, 5, none⟩ (.int .i64 s'.z.b)) n v o x m G Y H s' := by
  have hlo := h.x.lo
  have hhi := h.hi
  have hhk := h.hk
  have k : ∀ (X : World) (i : Nat) (u : Value) (cs : List Value), ((RX w X n v o x m G Y ∧ Below K.heap.size K X) ∧ Row X H 70 cs) → ((RX w (X.setCell ⟨H, i, none⟩ u) n v o x m G Y ∧ Below K.heap.size K (X.setCell ⟨H, i, none⟩ u)) ∧ Row (X.setCell ⟨H, i, none⟩ u) H 70 (cs.set i u)) := fun X i u cs hh =>
    ⟨⟨⟨hh.1.1.rs.cell_other (by omega) i u, hh.1.1.rx.other (by simp only []; omega) _, hlo⟩, hh.1.2.setCell (p := ⟨H, i, none⟩) (by simp only []; omega) _⟩, hh.2.store i u⟩
  have := k _ 5 (.int .i64 s'.z.b) _ (k _ 4 (.int .i64 s'.z.a) _ (k _ 3 (.int .i64 s'.y.b) _ (k _ 2 (.int .i64 s'.y.a) _ (k _ 1 (.int .i64 s'.x.b) _ (k _ 0 (.int .i64 s'.x.a) _ ⟨⟨h.x, h.bk⟩, h.rl⟩)))))
  exact ⟨this.1.1, this.2, hhi, this.1.2, hhk⟩
/-- a new letter -/
theorem RL.new (h : RX w W n v o x m G Y) (s : Se) : RL W w (W.alloc (.cells #[.int .i64 s.x.a, .int .i64 s.x.b, .int .i64 s.y.a, .int .i64 s.y.b, .int .i64 s.z.a, .int .i64 s.z.b] 70)) n v o x m G Y W.heap.size s :=
  ⟨h.below (below_alloc' W _), Row.new W 70 s.cells, h.rx.lt, below_alloc' W _, Nat.le_refl _⟩
end
/-- a guard: the goal is a list of operations -/
theorem wpl_here {P : Program} {ops : Array Oper} {rest : List Oper} {o : Oper} {a : Act} {w : World} {Q : Exit → Act → World → Prop} (h : wpList P ops Q (o :: rest) a w) : wpList P ops Q (o :: rest) a w := h
/-- in error Next answers nothing -/
theorem nextR_err (l : List Lx) (n : Int) (keys : List Int) (s : Int) (en : List En) (people office al day time r : Int) (h : (nextR l n keys s en people office al day time r).2 ≠ 0) : (nextR l n keys s en people office al day time r).1 = zeroF := by
  unfold nextR at h ⊢
  split
  · rfl
  · rename_i h1
    rw [if_neg h1] at h
    split
    · rfl
    · rename_i h2
      rw [if_neg h2] at h
      split
      · rfl
      · rename_i h3
        rw [if_neg h3] at h
        split
        · rfl
        · rename_i h4
          rw [if_neg h4] at h
          unfold moreR at h ⊢
          split
          · rename_i h5
            rw [if_pos h5] at h
            exact absurd rfl h
          · rename_i h5
            rw [if_neg h5] at h
            split
            · rename_i h6
              rw [h6] at h
              exact absurd rfl h
            · rename_i k h6
              rw [h6] at h
              simp only at h
              split
              · rfl
              · rename_i h7
                rw [if_neg h7] at h
                exact absurd rfl h
theorem own_sec {o0 o1 o2 o3 : Int} (h : sec4 o0 o1 o2 o3 = true) (i : Int) : secB (ownO o0 o1 o2 o3 i) = true := sec4_at h i
theorem keys_at (o0 o1 o2 o3 : Int) {l : List Lx} {k : Nat} (h : k < l.length) : (l.map fun x => keyO o0 o1 o2 o3 x.ol).getD k default = keyO o0 o1 o2 o3 (l.getD k default).ol := by
  rw [List.getD_eq_getElem?_getD, List.getElem?_map, List.getElem?_eq_getElem h, List.getD_eq_getElem?_getD, List.getElem?_eq_getElem h]; rfl
theorem offs_at {l : List Lx} (h : offsL l = true) {k : Nat} (hk : k < l.length) {j : Nat} (hj : j < (l.getD k default).ol.length) : offOK ((l.getD k default).ol.getD j default) = true := by
  cases hc : offOK ((l.getD k default).ol.getD j default) with
  | true => rfl
  | false => rw [offsL_no hk hj hc] at h; cases h
theorem ckE_at {s o people : Int} {ok : Bool} (h : ckE s o ok = 0) (hp : 0 ≤ people ∧ people ≤ 1024) : ckE s o (manyP people) = 0 := by
  obtain ⟨h1, _, h3⟩ := ckE_0 h
  unfold ckE
  rw [if_pos (by unfold secK; simp only [Bool.and_eq_true, decide_eq_true_eq]; exact h1), if_pos]
  rw [show manyP people = true from by unfold manyP; simp only [Bool.and_eq_true, decide_eq_true_eq]; exact hp]
  rw [Bool.true_and]
  unfold offB
  simp only [Bool.and_eq_true, decide_eq_true_eq]
  exact h3
end Go.Proofs.YthckledagggoiaaGreatDoor
