import Derived.Test.YthckledagggoiaaGreatDoorZPh
import Derived.MapKept
import Derived.Carry
import GoSem.Instr.MapUpdate
import GoSem.Instr.Lookup
import Derived.Maps.OwnOps
set_option linter.unusedSimpArgs false
set_option linter.unusedVariables false
namespace Fk
open Go Go.MapKept Go.RowKit
/-! Maps that a call itself made, whatever their elements are: what a look-up yields, as a function of the key. -/
section
variable {P : Program} {κ : Type}
/-- What the laws need of the keys' type. -/
structure KeyV (P : Program) (k : TypeId) (kv : κ → Value) : Prop where
  inj : ∀ {a b : κ}, kv a = kv b → a = b
  check : ∀ (em : Bool) (a : κ) (w : World), (Instr.checkKey em 10000 k (kv a)).run P w = .ok () w
  find : ∀ (a : κ) (w : World) (es : List MapEntry), (∀ e ∈ es, ∃ b, e.key = kv b) →
    ((∀ e ∈ es, e.key ≠ kv a) ∧ (Instr.findKey k (kv a) es).run P w = .ok none w) ∨ ∃ j e, es[j]? = some e ∧ e.key = kv a ∧ (Instr.findKey k (kv a) es).run P w = .ok (some (j, e.val)) w
  stays : ∀ (a : κ) (w : World), (Instr.keyThatStays (kv a) (kv a)).run P w = .ok (kv a) w
theorem key_i64 (x : Int) : IsKey (.int .i64) (.int .i64 x) := by simp [IsKey]
theorem intKeyV {k : TypeId} (hk : P.underlying k = some (.int .i64)) : KeyV P k (Value.int .i64) where
  inj h := by injection h
  check em a w := run_checkKey hk (key_i64 a) em 9999
  find a w es h := by
    have hks : ∀ x ∈ es, IsKey (.int .i64) x.key := fun x hx => by
      obtain ⟨b, hb⟩ := h x hx
      rw [hb]; exact key_i64 b
    rcases findNow_spec (key_i64 a) es 0 hks with ⟨h1, h2⟩ | ⟨j, y, h1, h2, h3⟩
    · exact .inl ⟨h2, run_findKey hk h1⟩
    · exact .inr ⟨j, y, h2, h3, by simpa using run_findKey hk h1⟩
  stays a w := run_keyThatStays (key_i64 a)
/-- block b of w is a map whose look-up is f. -/
def MapK (kv : κ → Value) (w : World) (b : Nat) (f : κ → Option Value) : Prop :=
  ∃ es clock, w.heap[b]? = some (.map es clock) ∧ (∀ x ∈ es.toList, ∃ a, x.key = kv a) ∧ es.toList.Pairwise (fun x y => x.key ≠ y.key) ∧
    (∀ x ∈ es.toList, ∀ a, x.key = kv a → f a = some x.val) ∧ (∀ a v, f a = some v → ∃ x ∈ es.toList, x.key = kv a)
noncomputable def updF (f : κ → Option Value) (a : κ) (v : Value) : κ → Option Value := fun x => open Classical in if x = a then some v else f x
theorem updF_same (f : κ → Option Value) (a : κ) (v : Value) : updF f a v a = some v := by unfold updF; rw [if_pos rfl]
theorem updF_ne (f : κ → Option Value) {a x : κ} (v : Value) (h : x ≠ a) : updF f a v x = f x := by unfold updF; rw [if_neg h]
variable {kv : κ → Value} {w w' : World} {b : Nat} {f : κ → Option Value} {t k e : TypeId}
theorem MapK.lt (h : MapK kv w b f) : b < w.heap.size := by
  obtain ⟨es, c, h1, _⟩ := h
  exact (Array.getElem?_eq_some_iff.1 h1).1
theorem MapK.keep (h : MapK kv w b f) (hk : w'.heap[b]? = w.heap[b]?) : MapK kv w' b f := by
  obtain ⟨es, c, h1, h2⟩ := h
  exact ⟨es, c, hk.trans h1, h2⟩
theorem MapK.below {n : Nat} (h : MapK kv w b f) (hb : Below n w w') (hn : b < n) : MapK kv w' b f := h.keep (hb.block _ hn)
theorem MapK.alloc (h : MapK kv w b f) (o : Obj) : MapK kv (w.alloc o) b f := h.keep (Below.heap_alloc w _ _ h.lt)
theorem MapK.made (kv : κ → Value) (w : World) : MapK kv (w.alloc (.map #[] 0)) w.heap.size (fun _ => none) :=
  ⟨#[], 0, World.alloc_heap_new w _, by simp, by simp, by simp, fun a v h => by cases h⟩
theorem MapK.look (K : KeyV P k kv) (ht : P.underlying t = some (.map k e)) {z : Value} (hz : (zeroValue e).run P w = .ok z w) (h : MapK kv w b f) (a : κ) (c : Bool) :
    (Instr.lookup t (.map (some b)) (kv a) c).run P w = .ok (if c then .tuple #[(f a).getD z, .bool (f a).isSome] else (f a).getD z) w := by
  obtain ⟨es, cl, hb, hks, hp, h1, h2⟩ := h
  rcases K.find a w es.toList hks with ⟨hno, hr⟩ | ⟨j, y, hj, hy, hr⟩
  · have hn : f a = none := by
      cases hf : f a with
      | none => rfl
      | some v => obtain ⟨x, hx, hx2⟩ := h2 a v hf; exact absurd hx2 (hno x hx)
    rw [hn]
    simp [Instr.lookup, run_underlying ht, run_getObj_map hb, K.check _ a w, hr, hz, Result.andThen]
  · have hv := h1 y (List.mem_of_getElem? hj) a hy
    rw [hv]
    simp [Instr.lookup, run_underlying ht, run_getObj_map hb, K.check _ a w, hr, Result.andThen]
theorem MapK.put (K : KeyV P k kv) (ht : P.underlying t = some (.map k e)) (h : MapK kv w b f) (a : κ) (v : Value) :
    ∃ w', (Instr.mapUpdate t (.map (some b)) (kv a) v).run P w = .ok () w' ∧ MapK kv w' b (updF f a v) ∧ w.grownBy w' (some b) := by
  obtain ⟨es, c, hb, hks, hp, h1, h2⟩ := h
  rcases K.find a w es.toList hks with ⟨hno, hr⟩ | ⟨j, y, hj, hy, hr⟩
  · refine ⟨{ w with heap := w.heap.setIfInBounds b (.map (es.push { key := kv a, val := v, born := c }) (c + 1)) }, ?_, ⟨_, _, (heap_set hb).1, ?_, ?_, ?_, ?_⟩, ?_⟩
    · simp [Instr.mapUpdate, run_underlying ht, run_getObj_map hb, K.check _ a w, hr, run_setObj_map _ hb, Result.andThen]
    · intro x hx
      rw [Array.toList_push] at hx
      rcases List.mem_append.1 hx with hx | hx
      · exact hks x hx
      · simp at hx; rw [hx]; exact ⟨a, rfl⟩
    · rw [Array.toList_push, List.pairwise_append]
      refine ⟨hp, by simp, fun x hx y hy => ?_⟩
      simp at hy
      rw [hy]
      exact hno x hx
    · intro x hx a' ha'
      rw [Array.toList_push] at hx
      rcases List.mem_append.1 hx with hx | hx
      · have hne : a' ≠ a := fun e => hno x hx (by rw [ha', e])
        rw [updF_ne _ _ hne]
        exact h1 x hx a' ha'
      · simp at hx
        rw [hx] at ha'
        have : a = a' := K.inj ha'
        rw [← this, hx, updF_same]
    · intro a' v' hv
      rw [Array.toList_push]
      by_cases hne : a' = a
      · exact ⟨{ key := kv a, val := v, born := c }, by simp, by rw [hne]⟩
      · rw [updF_ne _ _ hne] at hv
        obtain ⟨x, hx, hx2⟩ := h2 a' v' hv
        exact ⟨x, by simp [hx], hx2⟩
    · exact ⟨rfl, rfl, rfl, by simp, fun i _ hi => (heap_set hb).2 i (fun e => hi (by rw [e]))⟩
  · have hjl : j < es.toList.length := (List.getElem?_eq_some_iff.1 hj).1
    have hja : es[j]? = some y := by simpa using hj
    have hlist : (es.modify j (fun e' => { e' with key := kv a, val := v })).toList = es.toList.set j { y with key := kv a, val := v } := by
      apply List.ext_getElem?
      intro i
      by_cases hi : i = j
      · subst hi
        simp [hja, hjl]
        have : i < es.size := by simpa using hjl
        simp [this]
      · simp [Array.getElem?_modify, List.getElem?_set, Ne.symm hi, fun e : j = i => hi e.symm]
    have hkeys : (es.toList.set j { y with key := kv a, val := v }).map (fun x => x.key) = es.toList.map (fun x => x.key) := by
      rw [List.map_set]
      have : (es.toList.map (fun x => x.key))[j]? = some (kv a) := by rw [List.getElem?_map, hj, Option.map_some, hy]
      obtain ⟨hl, he⟩ := List.getElem?_eq_some_iff.1 this
      show (es.toList.map (fun x => x.key)).set j (kv a) = _
      rw [← he]
      exact List.set_getElem_self hl
    refine ⟨{ w with heap := w.heap.setIfInBounds b (.map (es.modify j (fun e' => { e' with key := kv a, val := v })) c) }, ?_, ⟨_, _, (heap_set hb).1, ?_, ?_, ?_, ?_⟩, ?_⟩
    · simp [Instr.mapUpdate, run_underlying ht, run_getObj_map hb, K.check _ a w, hr, hja, hy, K.stays a w, run_setObj_map _ hb, Result.andThen]
    · intro x hx
      rw [hlist] at hx
      have : x.key ∈ (es.toList.set j { y with key := kv a, val := v }).map (fun x => x.key) := List.mem_map.2 ⟨x, hx, rfl⟩
      rw [hkeys] at this
      obtain ⟨x', hx', e⟩ := List.mem_map.1 this
      rw [← e]; exact hks x' hx'
    · rw [hlist]
      have h3 : (es.toList.map (fun x => x.key)).Pairwise (fun p q => p ≠ q) := List.pairwise_map.2 hp
      rw [← hkeys] at h3
      exact List.pairwise_map.1 h3
    · intro x hx a' ha'
      rw [hlist] at hx
      obtain ⟨i, hi, ex⟩ := List.getElem_of_mem hx
      rw [List.getElem_set] at ex
      split at ex
      · rw [← ex] at ha' ⊢
        have : a = a' := K.inj ha'
        rw [← this, updF_same]
      · rename_i hne
        have hi' : i < es.toList.length := by simpa using hi
        have hxm : x ∈ es.toList := ex ▸ List.getElem_mem hi'
        have hne' : a' ≠ a := fun e => by
          have hk1 : x.key = y.key := by rw [ha', e, hy]
          have hy2 := (List.getElem?_eq_some_iff.1 hj).2
          rcases Nat.lt_trichotomy i j with h | h | h
          · have := List.pairwise_iff_getElem.1 hp i j hi' hjl h
            rw [ex, hy2] at this
            exact this hk1
          · exact hne h.symm
          · have := List.pairwise_iff_getElem.1 hp j i hjl hi' h
            rw [ex, hy2] at this
            exact this hk1.symm
        rw [updF_ne _ _ hne']
        exact h1 x hxm a' ha'
    · intro a' v' hv
      rw [hlist]
      have key : ∃ x ∈ es.toList, x.key = kv a' := by
        by_cases hne : a' = a
        · exact ⟨y, List.mem_of_getElem? hj, by rw [hne, hy]⟩
        · rw [updF_ne _ _ hne] at hv
          exact h2 a' v' hv
      obtain ⟨x, hx, hx2⟩ := key
      have : x.key ∈ es.toList.map (fun x => x.key) := List.mem_map.2 ⟨x, hx, rfl⟩
      rw [← hkeys] at this
      obtain ⟨x', hx', e⟩ := List.mem_map.1 this
      exact ⟨x', hx', by rw [e, hx2]⟩
    · exact ⟨rfl, rfl, rfl, by simp, fun i _ hi => (heap_set hb).2 i (fun e => hi (by rw [e]))⟩
/-- 'm[k] = v' and a literal's entry, at the operation. -/
theorem wpList_put {ops : Array Oper} {rest : List Oper} {o : Oper} {a : Act} {Q : Exit → Act → World → Prop}
    (hg : o.guard = none) (m x v : Operand) (t : TypeId) (hop : o.op = Op.mapUpdate t m x v ∨ o.op = Op.insert t m x v)
    (k e : TypeId) (K : KeyV P k kv) (ht : P.underlying t = some (.map k e)) (b : Nat) (f : κ → Option Value) (hm : a.eval m = .map (some b)) (h : MapK kv w b f) (key : κ) (hx : a.eval x = kv key) (val : Value) (hv : a.eval v = val)
    (hK : ∀ w', MapK kv w' b (updF f key val) → w.grownBy w' (some b) → wpList P ops Q rest (a.put o.dst undef) w') :
    wpList P ops Q (o :: rest) a w := by
  refine wpList_plain hg fun K' hK' => ?_
  obtain ⟨w', hrun, r1, r2⟩ := h.put K ht key val
  unfold Oper.wp
  rcases hop with hop | hop
  · simp [execOp, hop, hm, hx, hv, hrun, Result.andThen]
    exact hK' _ _ (hK w' r1 r2)
  · simp [execOp, hop, hm, hx, hv, hrun, Result.andThen]
    exact hK' _ _ (hK w' r1 r2)
end
end Fk

set_option linter.unusedSimpArgs false
set_option linter.unusedVariables false
namespace Go.Proofs.YthckledagggoiaaGreatDoor
open Go.RowKit Fk
/-! The registry: entries; what one must be. -/
structure En where
  no : Int
  kind : Int
  a : Int
  b : Int
  from_ : Int
  until_ : Int
  known : Int
  gone : Int
instance : Inhabited En := ⟨⟨0, 0, 0, 0, 0, 0, 0, 0⟩⟩
def En.cells (x : En) : List Value := [.int .i64 x.no, .int .i64 x.kind, .int .i64 x.a, .int .i64 x.b, .int .i64 x.from_, .int .i64 x.until_, .int .i64 x.known, .int .i64 x.gone]
def En.val (x : En) : Value := .agg #[.int .i64 x.no, .int .i64 x.kind, .int .i64 x.a, .int .i64 x.b, .int .i64 x.from_, .int .i64 x.until_, .int .i64 x.known, .int .i64 x.gone]
def idB (n : Int) : Bool := decide (0 ≤ n) && decide (n ≤ 1048576)
def spanB (f u : Int) : Bool := decide (0 ≤ f) && (decide (f < u) && decide (u ≤ 2097152))
def livesB (b : Int) : Bool := decide (0 ≤ b) && decide (b < 24)
def agentB (a b : Int) : Bool := (a != b) && idB b
def kindB (k a b : Int) : Bool := if k = 1 then livesB b else if k = 2 then agentB a b else if k = 3 ∨ k = 4 then b == 0 else false
def validB (x : En) : Bool := kindB x.kind x.a x.b && (idB x.no && (idB x.a && (spanB x.from_ x.until_ && spanB x.known x.gone)))
theorem st8e {w : World} {g : Nat} {t : TypeId} {a0 a1 a2 a3 a4 a5 a6 a7 : Value} (h : Row w g t [a0, a1, a2, a3, a4, a5, a6, a7]) : w.cell? ⟨g, 0, none⟩ = some a0 ∧ w.cell? ⟨g, 1, none⟩ = some a1 ∧ w.cell? ⟨g, 2, none⟩ = some a2 ∧ w.cell? ⟨g, 3, none⟩ = some a3 ∧
    w.cell? ⟨g, 4, none⟩ = some a4 ∧ w.cell? ⟨g, 5, none⟩ = some a5 ∧ w.cell? ⟨g, 6, none⟩ = some a6 ∧ w.cell? ⟨g, 7, none⟩ = some a7 := ⟨h.cell 0, h.cell 1, h.cell 2, h.cell 3, h.cell 4, h.cell 5, h.cell 6, h.cell 7⟩
set_option maxHeartbeats 400000 in
theorem rid_any (n : Int) (w : World) : Calls Tryz.prog 168 #[.int .i64 n] w fun e w' => e = .returned (.bool (idB n)) ∧ w' = w := by
  unfold idB
  by_cases h1 : 0 ≤ n
  · rw [decide_eq_true h1, Bool.true_and]
    by_cases h2 : n ≤ 1048576
    · rw [decide_eq_true h2]
      go_enter Tryz.func168, Tryz.ntmps168
      go_wp2
      go_ret
      exact ⟨rfl, rfl⟩
    · rw [decide_eq_false h2]
      go_enter Tryz.func168, Tryz.ntmps168
      go_wp2
      go_ret
      exact ⟨rfl, rfl⟩
  · rw [decide_eq_false h1, Bool.false_and]
    go_enter Tryz.func168, Tryz.ntmps168
    go_wp2
    go_ret
    exact ⟨rfl, rfl⟩
set_option maxHeartbeats 400000 in
theorem rspan_any (f u : Int) (w : World) : Calls Tryz.prog 169 #[.int .i64 f, .int .i64 u] w fun e w' => e = .returned (.bool (spanB f u)) ∧ w' = w := by
  unfold spanB
  by_cases h1 : 0 ≤ f
  · rw [decide_eq_true h1, Bool.true_and]
    by_cases h2 : f < u
    · rw [decide_eq_true h2, Bool.true_and]
      by_cases h3 : u ≤ 2097152
      · rw [decide_eq_true h3]
        go_enter Tryz.func169, Tryz.ntmps169
        go_wp2
        go_ret
        exact ⟨rfl, rfl⟩
      · rw [decide_eq_false h3]
        go_enter Tryz.func169, Tryz.ntmps169
        go_wp2
        go_ret
        exact ⟨rfl, rfl⟩
    · rw [decide_eq_false h2, Bool.false_and]
      go_enter Tryz.func169, Tryz.ntmps169
      go_wp2
      go_ret
      exact ⟨rfl, rfl⟩
  · rw [decide_eq_false h1, Bool.false_and]
    go_enter Tryz.func169, Tryz.ntmps169
    go_wp2
    go_ret
    exact ⟨rfl, rfl⟩
set_option maxHeartbeats 400000 in
theorem kinds1_any (a b : Int) (w : World) : Calls Tryz.prog 184 #[.int .i64 a, .int .i64 b] w fun e w' => e = .returned (.bool (b == 0)) ∧ w' = w := by
  go_enter Tryz.func184, Tryz.ntmps184
  go_wp2
  go_ret
  exact ⟨by first | rfl | simp, rfl⟩
set_option maxHeartbeats 400000 in
theorem kinds2_any (a b : Int) (w : World) : Calls Tryz.prog 185 #[.int .i64 a, .int .i64 b] w fun e w' => e = .returned (.bool (livesB b)) ∧ w' = w := by
  unfold livesB
  by_cases h1 : 0 ≤ b
  · rw [decide_eq_true h1, Bool.true_and]
    by_cases h2 : b < 24
    · rw [decide_eq_true h2]
      go_enter Tryz.func185, Tryz.ntmps185
      go_wp2
      go_ret
      exact ⟨rfl, rfl⟩
    · rw [decide_eq_false h2]
      go_enter Tryz.func185, Tryz.ntmps185
      go_wp2
      go_ret
      exact ⟨rfl, rfl⟩
  · rw [decide_eq_false h1, Bool.false_and]
    go_enter Tryz.func185, Tryz.ntmps185
    go_wp2
    go_ret
    exact ⟨rfl, rfl⟩
set_option maxHeartbeats 400000 in
theorem kinds3_any (a b : Int) (w : World) : Calls Tryz.prog 186 #[.int .i64 a, .int .i64 b] w fun e w' => e = .returned (.bool (agentB a b)) ∧ w' = w := by
  unfold agentB
  have HI := Lib.hid (rid_any b)
  cases h1 : (a != b) with
  | false =>
    go_enter Tryz.func186, Tryz.ntmps186
    go_wp2
    go_ret
    exact ⟨rfl, rfl⟩
  | true =>
    go_enter Tryz.func186, Tryz.ntmps186
    go_wp2_with (go_at_call 168; (with_reducible refine (HI.out _).mono ?_); rintro e w1 ⟨rfl, rfl⟩)
    go_ret
    exact ⟨by first | rfl | simp, rfl⟩
theorem law_int : KeyV Tryz.prog 3 (Value.int .i64) := intKeyV Tryz.underlying3
abbrev fnV (n : Nat) : Value := .func (Fn.func n) #[] #[]
noncomputable def kindF : Int → Option Value := updF (updF (updF (updF (fun _ => none) 1 (fnV 185)) 2 (fnV 186)) 3 (fnV 184)) 4 (fnV 184)
theorem kindF_1 : kindF 1 = some (fnV 185) := by unfold kindF; rw [updF_ne _ _ (by decide), updF_ne _ _ (by decide), updF_ne _ _ (by decide), updF_same]
theorem kindF_2 : kindF 2 = some (fnV 186) := by unfold kindF; rw [updF_ne _ _ (by decide), updF_ne _ _ (by decide), updF_same]
theorem kindF_3 : kindF 3 = some (fnV 184) := by unfold kindF; rw [updF_ne _ _ (by decide), updF_same]
theorem kindF_4 : kindF 4 = some (fnV 184) := by unfold kindF; rw [updF_same]
theorem kindF_no {k : Int} (h1 : k ≠ 1) (h2 : k ≠ 2) (h3 : k ≠ 3) (h4 : k ≠ 4) : kindF k = none := by unfold kindF; rw [updF_ne _ _ h4, updF_ne _ _ h3, updF_ne _ _ h2, updF_ne _ _ h1]
set_option maxRecDepth 100000 in
set_option maxHeartbeats 2000000 in
theorem kinds_any (w : World) : Calls Tryz.prog 167 #[] w fun e w' => ∃ b, e = .returned (.map (some b)) ∧ Below w.heap.size w w' ∧ MapK (Value.int .i64) w' b kindF := by
  have hmm := @run_makeMap Tryz.prog
  have h0 := Lib.hid (MapK.made (Value.int .i64) w)
  have hB := Lib.hid (below_alloc' w (.map #[] 0))
  go_enter Tryz.func167, Tryz.ntmps167
  go_wp2_with (first
    | (refine wpList_put rfl _ _ _ _ (.inr rfl) _ _ law_int Tryz.underlying217 _ _ rfl H3 4 rfl _ rfl ?_; intro w4 H4 G4)
    | (refine wpList_put rfl _ _ _ _ (.inr rfl) _ _ law_int Tryz.underlying217 _ _ rfl H2 3 rfl _ rfl ?_; intro w3 H3 G3)
    | (refine wpList_put rfl _ _ _ _ (.inr rfl) _ _ law_int Tryz.underlying217 _ _ rfl H1 2 rfl _ rfl ?_; intro w2 H2 G2)
    | (refine wpList_put rfl _ _ _ _ (.inr rfl) _ _ law_int Tryz.underlying217 _ _ rfl h0.out 1 rfl _ rfl ?_; intro w1 H1 G1))
  go_ret
  have hz : w.heap.size ≤ (w.alloc (.map #[] 0)).heap.size := hB.out.size
  have gg : ∀ {X Y : World}, Below w.heap.size w X → X.grownBy Y (some w.heap.size) → Below w.heap.size w Y := fun hx hy => hx.grown hy hx.size (fun r e => by cases e; exact Nat.le_refl _)
  exact ⟨_, rfl, gg (gg (gg (gg hB.out G1) G2) G3) G4, H4⟩
end Go.Proofs.YthckledagggoiaaGreatDoor

set_option linter.unusedSimpArgs false
set_option linter.unusedVariables false
namespace Go.Proofs.YthckledagggoiaaGreatDoor
open Go.RowKit Fk
/-! The registry: an entry is checked. -/
def valE (x : En) : Int := if validB x then 0 else 330
theorem valE_0 {x : En} (h : validB x = true) : valE x = 0 := by unfold valE; rw [if_pos h]
theorem valE_1 {x : En} (h : validB x = false) : valE x = 330 := by unfold valE; rw [h]; rfl
set_option maxRecDepth 100000 in
set_option maxHeartbeats 8000000 in
theorem echk_1 (no a b fr un kn gn : Int) (w : World) :
    Calls Tryz.prog 149 #[.agg #[.int .i64 no, .int .i64 1, .int .i64 a, .int .i64 b, .int .i64 fr, .int .i64 un, .int .i64 kn, .int .i64 gn]] w fun e w' => e = .returned (.int .i64 (valE ⟨no, 1, a, b, fr, un, kn, gn⟩)) ∧ Below w.heap.size w w' := by
  have hV : validB ⟨no, 1, a, b, fr, un, kn, gn⟩ = (livesB b && (idB no && (idB a && (spanB fr un && spanB kn gn)))) := rfl
  have r0 := Row.new w 49 [.int .i64 no, .int .i64 1, .int .i64 a, .int .i64 b, .int .i64 fr, .int .i64 un, .int .i64 kn, .int .i64 gn]
  have hB := below_alloc' w (.cells #[.int .i64 no, .int .i64 1, .int .i64 a, .int .i64 b, .int .i64 fr, .int .i64 un, .int .i64 kn, .int .i64 gn] 49)
  have HK := Lib.hid kinds_any
  have h1 := rid_any no
  have h2 := rid_any a
  have h3 := rspan_any fr un
  have h4 := rspan_any kn gn
  have h5 := kinds2_any a b
  go_enter Tryz.func149, Tryz.ntmps149
  obtain ⟨W, hW⟩ : ∃ W, w.alloc (.cells #[.int .i64 no, .int .i64 1, .int .i64 a, .int .i64 b, .int .i64 fr, .int .i64 un, .int .i64 kn, .int .i64 gn] 49) = W := ⟨_, rfl⟩
  replace r0 : Row W w.heap.size 49 [.int .i64 no, .int .i64 1, .int .i64 a, .int .i64 b, .int .i64 fr, .int .i64 un, .int .i64 kn, .int .i64 gn] := hW ▸ r0
  rw [hW] at hB
  go_upto_region 1 with fail
  try rw [hW]
  clear hW
  have hlo := r0.lt
  have c1 : W.cell? ⟨w.heap.size, 1, none⟩ = some (.int .i64 1) := r0.cell 1
  refine wp_region_tree 8 (.take 1 (.take 2 (.one 0 (.one 3 (.take 4 (.take 5 (.take 6 (.take 7 .done)))))))) (fun W' => Below W.heap.size W W') (by kernel_rfl) (by kernel_rfl) (fun _ _ d _ _ h => by cases d <;> exact h) (Below.refl _ _).drew ?_
  iterate 2
    refine wpTree_take (v := ?_) rfl (by kernel_rfl) (fun w' hSw => ?_) ?_
    rotate_left 1
    · have c0 := (hSw.cell (p := ⟨w.heap.size, 1, none⟩) hlo).trans c1
      go_simp
      with_reducible rfl
    simp only [Act.put, List.getElem_toArray, List.getElem_cons_succ, List.getElem_cons_zero, List.setIfInBounds_toArray, List.set_cons_zero, List.set_cons_succ]
  refine wpTree_one rfl (fun K hK => ⟨by kernel_rfl, ?_⟩)
  go_simp
  go_at_call 167
  refine (HK.out _).mono ?_
  rintro e w1 ⟨bm, rfl, hb, hm⟩
  have hb1 : Below W.heap.size W w1 := (Below.refl _ _).drew.trans hb
  refine hK _ _ hb1 ?_
  clear hK K
  try simp only [Act.put, List.getElem_toArray, List.getElem_cons_succ, List.getElem_cons_zero, List.setIfInBounds_toArray, List.set_cons_zero, List.set_cons_succ]
  have hl := hm.look law_int Tryz.underlying217 (show (zeroValue 157).run Tryz.prog w1 = .ok .nilFunc w1 by kernel_rfl) 1 true
  rw [kindF_1] at hl
  replace hl : (Instr.lookup 217 (.map (some bm)) (.int .i64 1) true).run Tryz.prog w1 = .ok (.tuple #[.func (Fn.func 185) #[] #[], .bool true]) w1 := hl
  refine wpTree_one rfl (fun K hK => ⟨by kernel_rfl, ?_⟩)
  go_simp
  refine hK _ _ hb1 ?_
  clear hK K
  try simp only [Act.put, List.getElem_toArray, List.getElem_cons_succ, List.getElem_cons_zero, List.setIfInBounds_toArray, List.set_cons_zero, List.set_cons_succ]
  iterate 4
    refine wpTree_take (v := ?_) rfl (by kernel_rfl) (fun w' hSw => ?_) ?_
    rotate_left 1
    · go_simp
      with_reducible rfl
    simp only [Act.put, List.getElem_toArray, List.getElem_cons_succ, List.getElem_cons_zero, List.setIfInBounds_toArray, List.set_cons_zero, List.set_cons_succ]
  refine wpTree_done ?_
  simp only [List.drop_succ_cons, List.drop_zero]
  have hB1 := hB.trans (hb1.mono hB.size)
  have r1 := r0.below hb1 hlo
  obtain ⟨e0, e1, e2, e3, e4, e5, e6, e7⟩ := st8e r1
  have hlo1 := r1.lt
  clear hl hm hb hb1 c1 r0 r1 hB hlo HK
  cases f0 : idB no with
  | false =>
    rw [f0] at h1
    have HV := Lib.hid (valE_1 (show validB ⟨no, 1, a, b, fr, un, kn, gn⟩ = false by rw [hV, f0]; simp))
    clear hV
    go_wp2_with (first
      | (go_at_call 168; (with_reducible refine (h1 _).mono ?_); rintro e x1 ⟨rfl, rfl⟩)
      | (go_at_call 168; (with_reducible refine (h2 _).mono ?_); rintro e x2 ⟨rfl, rfl⟩)
      | (go_at_call 169; (with_reducible refine (h3 _).mono ?_); rintro e x3 ⟨rfl, rfl⟩)
      | (go_at_call 169; (with_reducible refine (h4 _).mono ?_); rintro e x4 ⟨rfl, rfl⟩)
      | (go_at_call 185; (with_reducible refine (h5 _).mono ?_); rintro e x5 ⟨rfl, rfl⟩))
    go_ret
    exact ⟨by rw [HV.out]; rfl, hB1⟩
  | true =>
  rw [f0] at h1
  cases f1 : idB a with
  | false =>
    rw [f1] at h2
    have HV := Lib.hid (valE_1 (show validB ⟨no, 1, a, b, fr, un, kn, gn⟩ = false by rw [hV, f1]; simp))
    clear hV
    go_wp2_with (first
      | (go_at_call 168; (with_reducible refine (h1 _).mono ?_); rintro e x1 ⟨rfl, rfl⟩)
      | (go_at_call 168; (with_reducible refine (h2 _).mono ?_); rintro e x2 ⟨rfl, rfl⟩)
      | (go_at_call 169; (with_reducible refine (h3 _).mono ?_); rintro e x3 ⟨rfl, rfl⟩)
      | (go_at_call 169; (with_reducible refine (h4 _).mono ?_); rintro e x4 ⟨rfl, rfl⟩)
      | (go_at_call 185; (with_reducible refine (h5 _).mono ?_); rintro e x5 ⟨rfl, rfl⟩))
    go_ret
    exact ⟨by rw [HV.out]; rfl, hB1⟩
  | true =>
  rw [f1] at h2
  cases f2 : livesB b with
  | false =>
    rw [f2] at h5
    have HV := Lib.hid (valE_1 (show validB ⟨no, 1, a, b, fr, un, kn, gn⟩ = false by rw [hV, f2]; simp))
    clear hV
    go_wp2_with (first
      | (go_at_call 168; (with_reducible refine (h1 _).mono ?_); rintro e x1 ⟨rfl, rfl⟩)
      | (go_at_call 168; (with_reducible refine (h2 _).mono ?_); rintro e x2 ⟨rfl, rfl⟩)
      | (go_at_call 169; (with_reducible refine (h3 _).mono ?_); rintro e x3 ⟨rfl, rfl⟩)
      | (go_at_call 169; (with_reducible refine (h4 _).mono ?_); rintro e x4 ⟨rfl, rfl⟩)
      | (go_at_call 185; (with_reducible refine (h5 _).mono ?_); rintro e x5 ⟨rfl, rfl⟩))
    go_ret
    exact ⟨by rw [HV.out]; rfl, hB1⟩
  | true =>
  rw [f2] at h5
  cases f3 : spanB fr un with
  | false =>
    rw [f3] at h3
    have HV := Lib.hid (valE_1 (show validB ⟨no, 1, a, b, fr, un, kn, gn⟩ = false by rw [hV, f3]; simp))
    clear hV
    go_wp2_with (first
      | (go_at_call 168; (with_reducible refine (h1 _).mono ?_); rintro e x1 ⟨rfl, rfl⟩)
      | (go_at_call 168; (with_reducible refine (h2 _).mono ?_); rintro e x2 ⟨rfl, rfl⟩)
      | (go_at_call 169; (with_reducible refine (h3 _).mono ?_); rintro e x3 ⟨rfl, rfl⟩)
      | (go_at_call 169; (with_reducible refine (h4 _).mono ?_); rintro e x4 ⟨rfl, rfl⟩)
      | (go_at_call 185; (with_reducible refine (h5 _).mono ?_); rintro e x5 ⟨rfl, rfl⟩))
    go_ret
    exact ⟨by rw [HV.out]; rfl, hB1⟩
  | true =>
  rw [f3] at h3
  cases f4 : spanB kn gn with
  | false =>
    rw [f4] at h4
    have HV := Lib.hid (valE_1 (show validB ⟨no, 1, a, b, fr, un, kn, gn⟩ = false by rw [hV, f4]; simp))
    clear hV
    go_wp2_with (first
      | (go_at_call 168; (with_reducible refine (h1 _).mono ?_); rintro e x1 ⟨rfl, rfl⟩)
      | (go_at_call 168; (with_reducible refine (h2 _).mono ?_); rintro e x2 ⟨rfl, rfl⟩)
      | (go_at_call 169; (with_reducible refine (h3 _).mono ?_); rintro e x3 ⟨rfl, rfl⟩)
      | (go_at_call 169; (with_reducible refine (h4 _).mono ?_); rintro e x4 ⟨rfl, rfl⟩)
      | (go_at_call 185; (with_reducible refine (h5 _).mono ?_); rintro e x5 ⟨rfl, rfl⟩))
    go_ret
    exact ⟨by rw [HV.out]; rfl, hB1⟩
  | true =>
  rw [f4] at h4
  have HV := Lib.hid (valE_0 (show validB ⟨no, 1, a, b, fr, un, kn, gn⟩ = true by rw [hV, f0, f1, f2, f3, f4]; rfl))
  clear hV
  go_wp2_with (first
    | (go_at_call 168; (with_reducible refine (h1 _).mono ?_); rintro e x1 ⟨rfl, rfl⟩)
    | (go_at_call 168; (with_reducible refine (h2 _).mono ?_); rintro e x2 ⟨rfl, rfl⟩)
    | (go_at_call 169; (with_reducible refine (h3 _).mono ?_); rintro e x3 ⟨rfl, rfl⟩)
    | (go_at_call 169; (with_reducible refine (h4 _).mono ?_); rintro e x4 ⟨rfl, rfl⟩)
    | (go_at_call 185; (with_reducible refine (h5 _).mono ?_); rintro e x5 ⟨rfl, rfl⟩))
  go_ret
  exact ⟨by rw [HV.out]; rfl, hB1⟩
set_option maxRecDepth 100000 in
set_option maxHeartbeats 8000000 in
theorem echk_2 (no a b fr un kn gn : Int) (w : World) :
    Calls Tryz.prog 149 #[.agg #[.int .i64 no, .int .i64 2, .int .i64 a, .int .i64 b, .int .i64 fr, .int .i64 un, .int .i64 kn, .int .i64 gn]] w fun e w' => e = .returned (.int .i64 (valE ⟨no, 2, a, b, fr, un, kn, gn⟩)) ∧ Below w.heap.size w w' := by
  have hV : validB ⟨no, 2, a, b, fr, un, kn, gn⟩ = (agentB a b && (idB no && (idB a && (spanB fr un && spanB kn gn)))) := rfl
  have r0 := Row.new w 49 [.int .i64 no, .int .i64 2, .int .i64 a, .int .i64 b, .int .i64 fr, .int .i64 un, .int .i64 kn, .int .i64 gn]
  have hB := below_alloc' w (.cells #[.int .i64 no, .int .i64 2, .int .i64 a, .int .i64 b, .int .i64 fr, .int .i64 un, .int .i64 kn, .int .i64 gn] 49)
  have HK := Lib.hid kinds_any
  have h1 := rid_any no
  have h2 := rid_any a
  have h3 := rspan_any fr un
  have h4 := rspan_any kn gn
  have h5 := kinds3_any a b
  go_enter Tryz.func149, Tryz.ntmps149
  obtain ⟨W, hW⟩ : ∃ W, w.alloc (.cells #[.int .i64 no, .int .i64 2, .int .i64 a, .int .i64 b, .int .i64 fr, .int .i64 un, .int .i64 kn, .int .i64 gn] 49) = W := ⟨_, rfl⟩
  replace r0 : Row W w.heap.size 49 [.int .i64 no, .int .i64 2, .int .i64 a, .int .i64 b, .int .i64 fr, .int .i64 un, .int .i64 kn, .int .i64 gn] := hW ▸ r0
  rw [hW] at hB
  go_upto_region 1 with fail
  try rw [hW]
  clear hW
  have hlo := r0.lt
  have c1 : W.cell? ⟨w.heap.size, 1, none⟩ = some (.int .i64 2) := r0.cell 1
  refine wp_region_tree 8 (.take 1 (.take 2 (.one 0 (.one 3 (.take 4 (.take 5 (.take 6 (.take 7 .done)))))))) (fun W' => Below W.heap.size W W') (by kernel_rfl) (by kernel_rfl) (fun _ _ d _ _ h => by cases d <;> exact h) (Below.refl _ _).drew ?_
  iterate 2
    refine wpTree_take (v := ?_) rfl (by kernel_rfl) (fun w' hSw => ?_) ?_
    rotate_left 1
    · have c0 := (hSw.cell (p := ⟨w.heap.size, 1, none⟩) hlo).trans c1
      go_simp
      with_reducible rfl
    simp only [Act.put, List.getElem_toArray, List.getElem_cons_succ, List.getElem_cons_zero, List.setIfInBounds_toArray, List.set_cons_zero, List.set_cons_succ]
  refine wpTree_one rfl (fun K hK => ⟨by kernel_rfl, ?_⟩)
  go_simp
  go_at_call 167
  refine (HK.out _).mono ?_
  rintro e w1 ⟨bm, rfl, hb, hm⟩
  have hb1 : Below W.heap.size W w1 := (Below.refl _ _).drew.trans hb
  refine hK _ _ hb1 ?_
  clear hK K
  try simp only [Act.put, List.getElem_toArray, List.getElem_cons_succ, List.getElem_cons_zero, List.setIfInBounds_toArray, List.set_cons_zero, List.set_cons_succ]
  have hl := hm.look law_int Tryz.underlying217 (show (zeroValue 157).run Tryz.prog w1 = .ok .nilFunc w1 by kernel_rfl) 2 true
  rw [kindF_2] at hl
  replace hl : (Instr.lookup 217 (.map (some bm)) (.int .i64 2) true).run Tryz.prog w1 = .ok (.tuple #[.func (Fn.func 186) #[] #[], .bool true]) w1 := hl
  refine wpTree_one rfl (fun K hK => ⟨by kernel_rfl, ?_⟩)
  go_simp
  refine hK _ _ hb1 ?_
  clear hK K
  try simp only [Act.put, List.getElem_toArray, List.getElem_cons_succ, List.getElem_cons_zero, List.setIfInBounds_toArray, List.set_cons_zero, List.set_cons_succ]
  iterate 4
    refine wpTree_take (v := ?_) rfl (by kernel_rfl) (fun w' hSw => ?_) ?_
    rotate_left 1
    · go_simp
      with_reducible rfl
    simp only [Act.put, List.getElem_toArray, List.getElem_cons_succ, List.getElem_cons_zero, List.setIfInBounds_toArray, List.set_cons_zero, List.set_cons_succ]
  refine wpTree_done ?_
  simp only [List.drop_succ_cons, List.drop_zero]
  have hB1 := hB.trans (hb1.mono hB.size)
  have r1 := r0.below hb1 hlo
  obtain ⟨e0, e1, e2, e3, e4, e5, e6, e7⟩ := st8e r1
  have hlo1 := r1.lt
  clear hl hm hb hb1 c1 r0 r1 hB hlo HK
  cases f0 : idB no with
  | false =>
    rw [f0] at h1
    have HV := Lib.hid (valE_1 (show validB ⟨no, 2, a, b, fr, un, kn, gn⟩ = false by rw [hV, f0]; simp))
    clear hV
    go_wp2_with (first
      | (go_at_call 168; (with_reducible refine (h1 _).mono ?_); rintro e x1 ⟨rfl, rfl⟩)
      | (go_at_call 168; (with_reducible refine (h2 _).mono ?_); rintro e x2 ⟨rfl, rfl⟩)
      | (go_at_call 169; (with_reducible refine (h3 _).mono ?_); rintro e x3 ⟨rfl, rfl⟩)
      | (go_at_call 169; (with_reducible refine (h4 _).mono ?_); rintro e x4 ⟨rfl, rfl⟩)
      | (go_at_call 186; (with_reducible refine (h5 _).mono ?_); rintro e x5 ⟨rfl, rfl⟩))
    go_ret
    exact ⟨by rw [HV.out]; rfl, hB1⟩
  | true =>
  rw [f0] at h1
  cases f1 : idB a with
  | false =>
    rw [f1] at h2
    have HV := Lib.hid (valE_1 (show validB ⟨no, 2, a, b, fr, un, kn, gn⟩ = false by rw [hV, f1]; simp))
    clear hV
    go_wp2_with (first
      | (go_at_call 168; (with_reducible refine (h1 _).mono ?_); rintro e x1 ⟨rfl, rfl⟩)
      | (go_at_call 168; (with_reducible refine (h2 _).mono ?_); rintro e x2 ⟨rfl, rfl⟩)
      | (go_at_call 169; (with_reducible refine (h3 _).mono ?_); rintro e x3 ⟨rfl, rfl⟩)
      | (go_at_call 169; (with_reducible refine (h4 _).mono ?_); rintro e x4 ⟨rfl, rfl⟩)
      | (go_at_call 186; (with_reducible refine (h5 _).mono ?_); rintro e x5 ⟨rfl, rfl⟩))
    go_ret
    exact ⟨by rw [HV.out]; rfl, hB1⟩
  | true =>
  rw [f1] at h2
  cases f2 : agentB a b with
  | false =>
    rw [f2] at h5
    have HV := Lib.hid (valE_1 (show validB ⟨no, 2, a, b, fr, un, kn, gn⟩ = false by rw [hV, f2]; simp))
    clear hV
    go_wp2_with (first
      | (go_at_call 168; (with_reducible refine (h1 _).mono ?_); rintro e x1 ⟨rfl, rfl⟩)
      | (go_at_call 168; (with_reducible refine (h2 _).mono ?_); rintro e x2 ⟨rfl, rfl⟩)
      | (go_at_call 169; (with_reducible refine (h3 _).mono ?_); rintro e x3 ⟨rfl, rfl⟩)
      | (go_at_call 169; (with_reducible refine (h4 _).mono ?_); rintro e x4 ⟨rfl, rfl⟩)
      | (go_at_call 186; (with_reducible refine (h5 _).mono ?_); rintro e x5 ⟨rfl, rfl⟩))
    go_ret
    exact ⟨by rw [HV.out]; rfl, hB1⟩
  | true =>
  rw [f2] at h5
  cases f3 : spanB fr un with
  | false =>
    rw [f3] at h3
    have HV := Lib.hid (valE_1 (show validB ⟨no, 2, a, b, fr, un, kn, gn⟩ = false by rw [hV, f3]; simp))
    clear hV
    go_wp2_with (first
      | (go_at_call 168; (with_reducible refine (h1 _).mono ?_); rintro e x1 ⟨rfl, rfl⟩)
      | (go_at_call 168; (with_reducible refine (h2 _).mono ?_); rintro e x2 ⟨rfl, rfl⟩)
      | (go_at_call 169; (with_reducible refine (h3 _).mono ?_); rintro e x3 ⟨rfl, rfl⟩)
      | (go_at_call 169; (with_reducible refine (h4 _).mono ?_); rintro e x4 ⟨rfl, rfl⟩)
      | (go_at_call 186; (with_reducible refine (h5 _).mono ?_); rintro e x5 ⟨rfl, rfl⟩))
    go_ret
    exact ⟨by rw [HV.out]; rfl, hB1⟩
  | true =>
  rw [f3] at h3
  cases f4 : spanB kn gn with
  | false =>
    rw [f4] at h4
    have HV := Lib.hid (valE_1 (show validB ⟨no, 2, a, b, fr, un, kn, gn⟩ = false by rw [hV, f4]; simp))
    clear hV
    go_wp2_with (first
      | (go_at_call 168; (with_reducible refine (h1 _).mono ?_); rintro e x1 ⟨rfl, rfl⟩)
      | (go_at_call 168; (with_reducible refine (h2 _).mono ?_); rintro e x2 ⟨rfl, rfl⟩)
      | (go_at_call 169; (with_reducible refine (h3 _).mono ?_); rintro e x3 ⟨rfl, rfl⟩)
      | (go_at_call 169; (with_reducible refine (h4 _).mono ?_); rintro e x4 ⟨rfl, rfl⟩)
      | (go_at_call 186; (with_reducible refine (h5 _).mono ?_); rintro e x5 ⟨rfl, rfl⟩))
    go_ret
    exact ⟨by rw [HV.out]; rfl, hB1⟩
  | true =>
  rw [f4] at h4
  have HV := Lib.hid (valE_0 (show validB ⟨no, 2, a, b, fr, un, kn, gn⟩ = true by rw [hV, f0, f1, f2, f3, f4]; rfl))
  clear hV
  go_wp2_with (first
    | (go_at_call 168; (with_reducible refine (h1 _).mono ?_); rintro e x1 ⟨rfl, rfl⟩)
    | (go_at_call 168; (with_reducible refine (h2 _).mono ?_); rintro e x2 ⟨rfl, rfl⟩)
    | (go_at_call 169; (with_reducible refine (h3 _).mono ?_); rintro e x3 ⟨rfl, rfl⟩)
    | (go_at_call 169; (with_reducible refine (h4 _).mono ?_); rintro e x4 ⟨rfl, rfl⟩)
    | (go_at_call 186; (with_reducible refine (h5 _).mono ?_); rintro e x5 ⟨rfl, rfl⟩))
  go_ret
  exact ⟨by rw [HV.out]; rfl, hB1⟩
set_option maxRecDepth 100000 in
set_option maxHeartbeats 8000000 in
theorem echk_3 (no a b fr un kn gn : Int) (w : World) :
    Calls Tryz.prog 149 #[.agg #[.int .i64 no, .int .i64 3, .int .i64 a, .int .i64 b, .int .i64 fr, .int .i64 un, .int .i64 kn, .int .i64 gn]] w fun e w' => e = .returned (.int .i64 (valE ⟨no, 3, a, b, fr, un, kn, gn⟩)) ∧ Below w.heap.size w w' := by
  have hV : validB ⟨no, 3, a, b, fr, un, kn, gn⟩ = ((b == 0) && (idB no && (idB a && (spanB fr un && spanB kn gn)))) := rfl
  have r0 := Row.new w 49 [.int .i64 no, .int .i64 3, .int .i64 a, .int .i64 b, .int .i64 fr, .int .i64 un, .int .i64 kn, .int .i64 gn]
  have hB := below_alloc' w (.cells #[.int .i64 no, .int .i64 3, .int .i64 a, .int .i64 b, .int .i64 fr, .int .i64 un, .int .i64 kn, .int .i64 gn] 49)
  have HK := Lib.hid kinds_any
  have h1 := rid_any no
  have h2 := rid_any a
  have h3 := rspan_any fr un
  have h4 := rspan_any kn gn
  have h5 := kinds1_any a b
  go_enter Tryz.func149, Tryz.ntmps149
  obtain ⟨W, hW⟩ : ∃ W, w.alloc (.cells #[.int .i64 no, .int .i64 3, .int .i64 a, .int .i64 b, .int .i64 fr, .int .i64 un, .int .i64 kn, .int .i64 gn] 49) = W := ⟨_, rfl⟩
  replace r0 : Row W w.heap.size 49 [.int .i64 no, .int .i64 3, .int .i64 a, .int .i64 b, .int .i64 fr, .int .i64 un, .int .i64 kn, .int .i64 gn] := hW ▸ r0
  rw [hW] at hB
  go_upto_region 1 with fail
  try rw [hW]
  clear hW
  have hlo := r0.lt
  have c1 : W.cell? ⟨w.heap.size, 1, none⟩ = some (.int .i64 3) := r0.cell 1
  refine wp_region_tree 8 (.take 1 (.take 2 (.one 0 (.one 3 (.take 4 (.take 5 (.take 6 (.take 7 .done)))))))) (fun W' => Below W.heap.size W W') (by kernel_rfl) (by kernel_rfl) (fun _ _ d _ _ h => by cases d <;> exact h) (Below.refl _ _).drew ?_
  iterate 2
    refine wpTree_take (v := ?_) rfl (by kernel_rfl) (fun w' hSw => ?_) ?_
    rotate_left 1
    · have c0 := (hSw.cell (p := ⟨w.heap.size, 1, none⟩) hlo).trans c1
      go_simp
      with_reducible rfl
    simp only [Act.put, List.getElem_toArray, List.getElem_cons_succ, List.getElem_cons_zero, List.setIfInBounds_toArray, List.set_cons_zero, List.set_cons_succ]
  refine wpTree_one rfl (fun K hK => ⟨by kernel_rfl, ?_⟩)
  go_simp
  go_at_call 167
  refine (HK.out _).mono ?_
  rintro e w1 ⟨bm, rfl, hb, hm⟩
  have hb1 : Below W.heap.size W w1 := (Below.refl _ _).drew.trans hb
  refine hK _ _ hb1 ?_
  clear hK K
  try simp only [Act.put, List.getElem_toArray, List.getElem_cons_succ, List.getElem_cons_zero, List.setIfInBounds_toArray, List.set_cons_zero, List.set_cons_succ]
  have hl := hm.look law_int Tryz.underlying217 (show (zeroValue 157).run Tryz.prog w1 = .ok .nilFunc w1 by kernel_rfl) 3 true
  rw [kindF_3] at hl
  replace hl : (Instr.lookup 217 (.map (some bm)) (.int .i64 3) true).run Tryz.prog w1 = .ok (.tuple #[.func (Fn.func 184) #[] #[], .bool true]) w1 := hl
  refine wpTree_one rfl (fun K hK => ⟨by kernel_rfl, ?_⟩)
  go_simp
  refine hK _ _ hb1 ?_
  clear hK K
  try simp only [Act.put, List.getElem_toArray, List.getElem_cons_succ, List.getElem_cons_zero, List.setIfInBounds_toArray, List.set_cons_zero, List.set_cons_succ]
  iterate 4
    refine wpTree_take (v := ?_) rfl (by kernel_rfl) (fun w' hSw => ?_) ?_
    rotate_left 1
    · go_simp
      with_reducible rfl
    simp only [Act.put, List.getElem_toArray, List.getElem_cons_succ, List.getElem_cons_zero, List.setIfInBounds_toArray, List.set_cons_zero, List.set_cons_succ]
  refine wpTree_done ?_
  simp only [List.drop_succ_cons, List.drop_zero]
  have hB1 := hB.trans (hb1.mono hB.size)
  have r1 := r0.below hb1 hlo
  obtain ⟨e0, e1, e2, e3, e4, e5, e6, e7⟩ := st8e r1
  have hlo1 := r1.lt
  clear hl hm hb hb1 c1 r0 r1 hB hlo HK
  cases f0 : idB no with
  | false =>
    rw [f0] at h1
    have HV := Lib.hid (valE_1 (show validB ⟨no, 3, a, b, fr, un, kn, gn⟩ = false by rw [hV, f0]; simp))
    clear hV
    go_wp2_with (first
      | (go_at_call 168; (with_reducible refine (h1 _).mono ?_); rintro e x1 ⟨rfl, rfl⟩)
      | (go_at_call 168; (with_reducible refine (h2 _).mono ?_); rintro e x2 ⟨rfl, rfl⟩)
      | (go_at_call 169; (with_reducible refine (h3 _).mono ?_); rintro e x3 ⟨rfl, rfl⟩)
      | (go_at_call 169; (with_reducible refine (h4 _).mono ?_); rintro e x4 ⟨rfl, rfl⟩)
      | (go_at_call 184; (with_reducible refine (h5 _).mono ?_); rintro e x5 ⟨rfl, rfl⟩))
    go_ret
    exact ⟨by rw [HV.out]; rfl, hB1⟩
  | true =>
  rw [f0] at h1
  cases f1 : idB a with
  | false =>
    rw [f1] at h2
    have HV := Lib.hid (valE_1 (show validB ⟨no, 3, a, b, fr, un, kn, gn⟩ = false by rw [hV, f1]; simp))
    clear hV
    go_wp2_with (first
      | (go_at_call 168; (with_reducible refine (h1 _).mono ?_); rintro e x1 ⟨rfl, rfl⟩)
      | (go_at_call 168; (with_reducible refine (h2 _).mono ?_); rintro e x2 ⟨rfl, rfl⟩)
      | (go_at_call 169; (with_reducible refine (h3 _).mono ?_); rintro e x3 ⟨rfl, rfl⟩)
      | (go_at_call 169; (with_reducible refine (h4 _).mono ?_); rintro e x4 ⟨rfl, rfl⟩)
      | (go_at_call 184; (with_reducible refine (h5 _).mono ?_); rintro e x5 ⟨rfl, rfl⟩))
    go_ret
    exact ⟨by rw [HV.out]; rfl, hB1⟩
  | true =>
  rw [f1] at h2
  cases f2 : (b == 0) with
  | false =>
    rw [f2] at h5
    have HV := Lib.hid (valE_1 (show validB ⟨no, 3, a, b, fr, un, kn, gn⟩ = false by rw [hV, f2]; simp))
    clear hV
    go_wp2_with (first
      | (go_at_call 168; (with_reducible refine (h1 _).mono ?_); rintro e x1 ⟨rfl, rfl⟩)
      | (go_at_call 168; (with_reducible refine (h2 _).mono ?_); rintro e x2 ⟨rfl, rfl⟩)
      | (go_at_call 169; (with_reducible refine (h3 _).mono ?_); rintro e x3 ⟨rfl, rfl⟩)
      | (go_at_call 169; (with_reducible refine (h4 _).mono ?_); rintro e x4 ⟨rfl, rfl⟩)
      | (go_at_call 184; (with_reducible refine (h5 _).mono ?_); rintro e x5 ⟨rfl, rfl⟩))
    go_ret
    exact ⟨by rw [HV.out]; rfl, hB1⟩
  | true =>
  rw [f2] at h5
  cases f3 : spanB fr un with
  | false =>
    rw [f3] at h3
    have HV := Lib.hid (valE_1 (show validB ⟨no, 3, a, b, fr, un, kn, gn⟩ = false by rw [hV, f3]; simp))
    clear hV
    go_wp2_with (first
      | (go_at_call 168; (with_reducible refine (h1 _).mono ?_); rintro e x1 ⟨rfl, rfl⟩)
      | (go_at_call 168; (with_reducible refine (h2 _).mono ?_); rintro e x2 ⟨rfl, rfl⟩)
      | (go_at_call 169; (with_reducible refine (h3 _).mono ?_); rintro e x3 ⟨rfl, rfl⟩)
      | (go_at_call 169; (with_reducible refine (h4 _).mono ?_); rintro e x4 ⟨rfl, rfl⟩)
      | (go_at_call 184; (with_reducible refine (h5 _).mono ?_); rintro e x5 ⟨rfl, rfl⟩))
    go_ret
    exact ⟨by rw [HV.out]; rfl, hB1⟩
  | true =>
  rw [f3] at h3
  cases f4 : spanB kn gn with
  | false =>
    rw [f4] at h4
    have HV := Lib.hid (valE_1 (show validB ⟨no, 3, a, b, fr, un, kn, gn⟩ = false by rw [hV, f4]; simp))
    clear hV
    go_wp2_with (first
      | (go_at_call 168; (with_reducible refine (h1 _).mono ?_); rintro e x1 ⟨rfl, rfl⟩)
      | (go_at_call 168; (with_reducible refine (h2 _).mono ?_); rintro e x2 ⟨rfl, rfl⟩)
      | (go_at_call 169; (with_reducible refine (h3 _).mono ?_); rintro e x3 ⟨rfl, rfl⟩)
      | (go_at_call 169; (with_reducible refine (h4 _).mono ?_); rintro e x4 ⟨rfl, rfl⟩)
      | (go_at_call 184; (with_reducible refine (h5 _).mono ?_); rintro e x5 ⟨rfl, rfl⟩))
    go_ret
    exact ⟨by rw [HV.out]; rfl, hB1⟩
  | true =>
  rw [f4] at h4
  have HV := Lib.hid (valE_0 (show validB ⟨no, 3, a, b, fr, un, kn, gn⟩ = true by rw [hV, f0, f1, f2, f3, f4]; rfl))
  clear hV
  go_wp2_with (first
    | (go_at_call 168; (with_reducible refine (h1 _).mono ?_); rintro e x1 ⟨rfl, rfl⟩)
    | (go_at_call 168; (with_reducible refine (h2 _).mono ?_); rintro e x2 ⟨rfl, rfl⟩)
    | (go_at_call 169; (with_reducible refine (h3 _).mono ?_); rintro e x3 ⟨rfl, rfl⟩)
    | (go_at_call 169; (with_reducible refine (h4 _).mono ?_); rintro e x4 ⟨rfl, rfl⟩)
    | (go_at_call 184; (with_reducible refine (h5 _).mono ?_); rintro e x5 ⟨rfl, rfl⟩))
  go_ret
  exact ⟨by rw [HV.out]; rfl, hB1⟩
set_option maxRecDepth 100000 in
set_option maxHeartbeats 8000000 in
theorem echk_4 (no a b fr un kn gn : Int) (w : World) :
    Calls Tryz.prog 149 #[.agg #[.int .i64 no, .int .i64 4, .int .i64 a, .int .i64 b, .int .i64 fr, .int .i64 un, .int .i64 kn, .int .i64 gn]] w fun e w' => e = .returned (.int .i64 (valE ⟨no, 4, a, b, fr, un, kn, gn⟩)) ∧ Below w.heap.size w w' := by
  have hV : validB ⟨no, 4, a, b, fr, un, kn, gn⟩ = ((b == 0) && (idB no && (idB a && (spanB fr un && spanB kn gn)))) := rfl
  have r0 := Row.new w 49 [.int .i64 no, .int .i64 4, .int .i64 a, .int .i64 b, .int .i64 fr, .int .i64 un, .int .i64 kn, .int .i64 gn]
  have hB := below_alloc' w (.cells #[.int .i64 no, .int .i64 4, .int .i64 a, .int .i64 b, .int .i64 fr, .int .i64 un, .int .i64 kn, .int .i64 gn] 49)
  have HK := Lib.hid kinds_any
  have h1 := rid_any no
  have h2 := rid_any a
  have h3 := rspan_any fr un
  have h4 := rspan_any kn gn
  have h5 := kinds1_any a b
  go_enter Tryz.func149, Tryz.ntmps149
  obtain ⟨W, hW⟩ : ∃ W, w.alloc (.cells #[.int .i64 no, .int .i64 4, .int .i64 a, .int .i64 b, .int .i64 fr, .int .i64 un, .int .i64 kn, .int .i64 gn] 49) = W := ⟨_, rfl⟩
  replace r0 : Row W w.heap.size 49 [.int .i64 no, .int .i64 4, .int .i64 a, .int .i64 b, .int .i64 fr, .int .i64 un, .int .i64 kn, .int .i64 gn] := hW ▸ r0
  rw [hW] at hB
  go_upto_region 1 with fail
  try rw [hW]
  clear hW
  have hlo := r0.lt
  have c1 : W.cell? ⟨w.heap.size, 1, none⟩ = some (.int .i64 4) := r0.cell 1
  refine wp_region_tree 8 (.take 1 (.take 2 (.one 0 (.one 3 (.take 4 (.take 5 (.take 6 (.take 7 .done)))))))) (fun W' => Below W.heap.size W W') (by kernel_rfl) (by kernel_rfl) (fun _ _ d _ _ h => by cases d <;> exact h) (Below.refl _ _).drew ?_
  iterate 2
    refine wpTree_take (v := ?_) rfl (by kernel_rfl) (fun w' hSw => ?_) ?_
    rotate_left 1
    · have c0 := (hSw.cell (p := ⟨w.heap.size, 1, none⟩) hlo).trans c1
      go_simp
      with_reducible rfl
    simp only [Act.put, List.getElem_toArray, List.getElem_cons_succ, List.getElem_cons_zero, List.setIfInBounds_toArray, List.set_cons_zero, List.set_cons_succ]
  refine wpTree_one rfl (fun K hK => ⟨by kernel_rfl, ?_⟩)
  go_simp
  go_at_call 167
  refine (HK.out _).mono ?_
  rintro e w1 ⟨bm, rfl, hb, hm⟩
  have hb1 : Below W.heap.size W w1 := (Below.refl _ _).drew.trans hb
  refine hK _ _ hb1 ?_
  clear hK K
  try simp only [Act.put, List.getElem_toArray, List.getElem_cons_succ, List.getElem_cons_zero, List.setIfInBounds_toArray, List.set_cons_zero, List.set_cons_succ]
  have hl := hm.look law_int Tryz.underlying217 (show (zeroValue 157).run Tryz.prog w1 = .ok .nilFunc w1 by kernel_rfl) 4 true
  rw [kindF_4] at hl
  replace hl : (Instr.lookup 217 (.map (some bm)) (.int .i64 4) true).run Tryz.prog w1 = .ok (.tuple #[.func (Fn.func 184) #[] #[], .bool true]) w1 := hl
  refine wpTree_one rfl (fun K hK => ⟨by kernel_rfl, ?_⟩)
  go_simp
  refine hK _ _ hb1 ?_
  clear hK K
  try simp only [Act.put, List.getElem_toArray, List.getElem_cons_succ, List.getElem_cons_zero, List.setIfInBounds_toArray, List.set_cons_zero, List.set_cons_succ]
  iterate 4
    refine wpTree_take (v := ?_) rfl (by kernel_rfl) (fun w' hSw => ?_) ?_
    rotate_left 1
    · go_simp
      with_reducible rfl
    simp only [Act.put, List.getElem_toArray, List.getElem_cons_succ, List.getElem_cons_zero, List.setIfInBounds_toArray, List.set_cons_zero, List.set_cons_succ]
  refine wpTree_done ?_
  simp only [List.drop_succ_cons, List.drop_zero]
  have hB1 := hB.trans (hb1.mono hB.size)
  have r1 := r0.below hb1 hlo
  obtain ⟨e0, e1, e2, e3, e4, e5, e6, e7⟩ := st8e r1
  have hlo1 := r1.lt
  clear hl hm hb hb1 c1 r0 r1 hB hlo HK
  cases f0 : idB no with
  | false =>
    rw [f0] at h1
    have HV := Lib.hid (valE_1 (show validB ⟨no, 4, a, b, fr, un, kn, gn⟩ = false by rw [hV, f0]; simp))
    clear hV
    go_wp2_with (first
      | (go_at_call 168; (with_reducible refine (h1 _).mono ?_); rintro e x1 ⟨rfl, rfl⟩)
      | (go_at_call 168; (with_reducible refine (h2 _).mono ?_); rintro e x2 ⟨rfl, rfl⟩)
      | (go_at_call 169; (with_reducible refine (h3 _).mono ?_); rintro e x3 ⟨rfl, rfl⟩)
      | (go_at_call 169; (with_reducible refine (h4 _).mono ?_); rintro e x4 ⟨rfl, rfl⟩)
      | (go_at_call 184; (with_reducible refine (h5 _).mono ?_); rintro e x5 ⟨rfl, rfl⟩))
    go_ret
    exact ⟨by rw [HV.out]; rfl, hB1⟩
  | true =>
  rw [f0] at h1
  cases f1 : idB a with
  | false =>
    rw [f1] at h2
    have HV := Lib.hid (valE_1 (show validB ⟨no, 4, a, b, fr, un, kn, gn⟩ = false by rw [hV, f1]; simp))
    clear hV
    go_wp2_with (first
      | (go_at_call 168; (with_reducible refine (h1 _).mono ?_); rintro e x1 ⟨rfl, rfl⟩)
      | (go_at_call 168; (with_reducible refine (h2 _).mono ?_); rintro e x2 ⟨rfl, rfl⟩)
      | (go_at_call 169; (with_reducible refine (h3 _).mono ?_); rintro e x3 ⟨rfl, rfl⟩)
      | (go_at_call 169; (with_reducible refine (h4 _).mono ?_); rintro e x4 ⟨rfl, rfl⟩)
      | (go_at_call 184; (with_reducible refine (h5 _).mono ?_); rintro e x5 ⟨rfl, rfl⟩))
    go_ret
    exact ⟨by rw [HV.out]; rfl, hB1⟩
  | true =>
  rw [f1] at h2
  cases f2 : (b == 0) with
  | false =>
    rw [f2] at h5
    have HV := Lib.hid (valE_1 (show validB ⟨no, 4, a, b, fr, un, kn, gn⟩ = false by rw [hV, f2]; simp))
    clear hV
    go_wp2_with (first
      | (go_at_call 168; (with_reducible refine (h1 _).mono ?_); rintro e x1 ⟨rfl, rfl⟩)
      | (go_at_call 168; (with_reducible refine (h2 _).mono ?_); rintro e x2 ⟨rfl, rfl⟩)
      | (go_at_call 169; (with_reducible refine (h3 _).mono ?_); rintro e x3 ⟨rfl, rfl⟩)
      | (go_at_call 169; (with_reducible refine (h4 _).mono ?_); rintro e x4 ⟨rfl, rfl⟩)
      | (go_at_call 184; (with_reducible refine (h5 _).mono ?_); rintro e x5 ⟨rfl, rfl⟩))
    go_ret
    exact ⟨by rw [HV.out]; rfl, hB1⟩
  | true =>
  rw [f2] at h5
  cases f3 : spanB fr un with
  | false =>
    rw [f3] at h3
    have HV := Lib.hid (valE_1 (show validB ⟨no, 4, a, b, fr, un, kn, gn⟩ = false by rw [hV, f3]; simp))
    clear hV
    go_wp2_with (first
      | (go_at_call 168; (with_reducible refine (h1 _).mono ?_); rintro e x1 ⟨rfl, rfl⟩)
      | (go_at_call 168; (with_reducible refine (h2 _).mono ?_); rintro e x2 ⟨rfl, rfl⟩)
      | (go_at_call 169; (with_reducible refine (h3 _).mono ?_); rintro e x3 ⟨rfl, rfl⟩)
      | (go_at_call 169; (with_reducible refine (h4 _).mono ?_); rintro e x4 ⟨rfl, rfl⟩)
      | (go_at_call 184; (with_reducible refine (h5 _).mono ?_); rintro e x5 ⟨rfl, rfl⟩))
    go_ret
    exact ⟨by rw [HV.out]; rfl, hB1⟩
  | true =>
  rw [f3] at h3
  cases f4 : spanB kn gn with
  | false =>
    rw [f4] at h4
    have HV := Lib.hid (valE_1 (show validB ⟨no, 4, a, b, fr, un, kn, gn⟩ = false by rw [hV, f4]; simp))
    clear hV
    go_wp2_with (first
      | (go_at_call 168; (with_reducible refine (h1 _).mono ?_); rintro e x1 ⟨rfl, rfl⟩)
      | (go_at_call 168; (with_reducible refine (h2 _).mono ?_); rintro e x2 ⟨rfl, rfl⟩)
      | (go_at_call 169; (with_reducible refine (h3 _).mono ?_); rintro e x3 ⟨rfl, rfl⟩)
      | (go_at_call 169; (with_reducible refine (h4 _).mono ?_); rintro e x4 ⟨rfl, rfl⟩)
      | (go_at_call 184; (with_reducible refine (h5 _).mono ?_); rintro e x5 ⟨rfl, rfl⟩))
    go_ret
    exact ⟨by rw [HV.out]; rfl, hB1⟩
  | true =>
  rw [f4] at h4
  have HV := Lib.hid (valE_0 (show validB ⟨no, 4, a, b, fr, un, kn, gn⟩ = true by rw [hV, f0, f1, f2, f3, f4]; rfl))
  clear hV
  go_wp2_with (first
    | (go_at_call 168; (with_reducible refine (h1 _).mono ?_); rintro e x1 ⟨rfl, rfl⟩)
    | (go_at_call 168; (with_reducible refine (h2 _).mono ?_); rintro e x2 ⟨rfl, rfl⟩)
    | (go_at_call 169; (with_reducible refine (h3 _).mono ?_); rintro e x3 ⟨rfl, rfl⟩)
    | (go_at_call 169; (with_reducible refine (h4 _).mono ?_); rintro e x4 ⟨rfl, rfl⟩)
    | (go_at_call 184; (with_reducible refine (h5 _).mono ?_); rintro e x5 ⟨rfl, rfl⟩))
  go_ret
  exact ⟨by rw [HV.out]; rfl, hB1⟩
set_option maxRecDepth 100000 in
set_option maxHeartbeats 8000000 in
theorem echk_no (no kk a b fr un kn gn : Int) (w : World) (h1 : kk ≠ 1) (h2 : kk ≠ 2) (h3 : kk ≠ 3) (h4 : kk ≠ 4) :
    Calls Tryz.prog 149 #[.agg #[.int .i64 no, .int .i64 kk, .int .i64 a, .int .i64 b, .int .i64 fr, .int .i64 un, .int .i64 kn, .int .i64 gn]] w fun e w' => e = .returned (.int .i64 (valE ⟨no, kk, a, b, fr, un, kn, gn⟩)) ∧ Below w.heap.size w w' := by
  have hV : validB ⟨no, kk, a, b, fr, un, kn, gn⟩ = (false && (idB no && (idB a && (spanB fr un && spanB kn gn)))) := by unfold validB kindB; rw [if_neg h1, if_neg h2, if_neg (by intro h; rcases h with h | h; exact h3 h; exact h4 h)]
  have r0 := Row.new w 49 [.int .i64 no, .int .i64 kk, .int .i64 a, .int .i64 b, .int .i64 fr, .int .i64 un, .int .i64 kn, .int .i64 gn]
  have hB := below_alloc' w (.cells #[.int .i64 no, .int .i64 kk, .int .i64 a, .int .i64 b, .int .i64 fr, .int .i64 un, .int .i64 kn, .int .i64 gn] 49)
  have HK := Lib.hid kinds_any
  have g1 := rid_any no
  have g2 := rid_any a
  have g3 := rspan_any fr un
  have g4 := rspan_any kn gn
  go_enter Tryz.func149, Tryz.ntmps149
  obtain ⟨W, hW⟩ : ∃ W, w.alloc (.cells #[.int .i64 no, .int .i64 kk, .int .i64 a, .int .i64 b, .int .i64 fr, .int .i64 un, .int .i64 kn, .int .i64 gn] 49) = W := ⟨_, rfl⟩
  replace r0 : Row W w.heap.size 49 [.int .i64 no, .int .i64 kk, .int .i64 a, .int .i64 b, .int .i64 fr, .int .i64 un, .int .i64 kn, .int .i64 gn] := hW ▸ r0
  rw [hW] at hB
  go_upto_region 1 with fail
  try rw [hW]
  clear hW
  have hlo := r0.lt
  have c1 : W.cell? ⟨w.heap.size, 1, none⟩ = some (.int .i64 kk) := r0.cell 1
  refine wp_region_tree 8 (.take 1 (.take 2 (.one 0 (.one 3 (.take 4 (.take 5 (.take 6 (.take 7 .done)))))))) (fun W' => Below W.heap.size W W') (by kernel_rfl) (by kernel_rfl) (fun _ _ d _ _ h => by cases d <;> exact h) (Below.refl _ _).drew ?_
  iterate 2
    refine wpTree_take (v := ?_) rfl (by kernel_rfl) (fun w' hSw => ?_) ?_
    rotate_left 1
    · have c0 := (hSw.cell (p := ⟨w.heap.size, 1, none⟩) hlo).trans c1
      go_simp
      with_reducible rfl
    simp only [Act.put, List.getElem_toArray, List.getElem_cons_succ, List.getElem_cons_zero, List.setIfInBounds_toArray, List.set_cons_zero, List.set_cons_succ]
  refine wpTree_one rfl (fun K hK => ⟨by kernel_rfl, ?_⟩)
  go_simp
  go_at_call 167
  refine (HK.out _).mono ?_
  rintro e w1 ⟨bm, rfl, hb, hm⟩
  have hb1 : Below W.heap.size W w1 := (Below.refl _ _).drew.trans hb
  refine hK _ _ hb1 ?_
  clear hK K
  try simp only [Act.put, List.getElem_toArray, List.getElem_cons_succ, List.getElem_cons_zero, List.setIfInBounds_toArray, List.set_cons_zero, List.set_cons_succ]
  have hl := hm.look law_int Tryz.underlying217 (show (zeroValue 157).run Tryz.prog w1 = .ok .nilFunc w1 by kernel_rfl) kk true
  rw [kindF_no h1 h2 h3 h4] at hl
  replace hl : (Instr.lookup 217 (.map (some bm)) (.int .i64 kk) true).run Tryz.prog w1 = .ok (.tuple #[.nilFunc, .bool false]) w1 := hl
  refine wpTree_one rfl (fun K hK => ⟨by kernel_rfl, ?_⟩)
  go_simp
  refine hK _ _ hb1 ?_
  clear hK K
  try simp only [Act.put, List.getElem_toArray, List.getElem_cons_succ, List.getElem_cons_zero, List.setIfInBounds_toArray, List.set_cons_zero, List.set_cons_succ]
  iterate 4
    refine wpTree_take (v := ?_) rfl (by kernel_rfl) (fun w' hSw => ?_) ?_
    rotate_left 1
    · go_simp
      with_reducible rfl
    simp only [Act.put, List.getElem_toArray, List.getElem_cons_succ, List.getElem_cons_zero, List.setIfInBounds_toArray, List.set_cons_zero, List.set_cons_succ]
  refine wpTree_done ?_
  simp only [List.drop_succ_cons, List.drop_zero]
  have hB1 := hB.trans (hb1.mono hB.size)
  have r1 := r0.below hb1 hlo
  obtain ⟨e0, e1, e2, e3, e4, e5, e6, e7⟩ := st8e r1
  have hlo1 := r1.lt
  clear hl hm hb hb1 c1 r0 r1 hB hlo HK
  have HV := Lib.hid (valE_1 (show validB ⟨no, kk, a, b, fr, un, kn, gn⟩ = false by rw [hV]; rfl))
  clear hV
  go_wp2_with (first
    | (go_at_call 168; (with_reducible refine (g1 _).mono ?_); rintro e x1 ⟨rfl, rfl⟩)
    | (go_at_call 168; (with_reducible refine (g2 _).mono ?_); rintro e x2 ⟨rfl, rfl⟩)
    | (go_at_call 169; (with_reducible refine (g3 _).mono ?_); rintro e x3 ⟨rfl, rfl⟩)
    | (go_at_call 169; (with_reducible refine (g4 _).mono ?_); rintro e x4 ⟨rfl, rfl⟩))
  go_ret
  exact ⟨by rw [HV.out]; rfl, hB1⟩
theorem echk_any (x : En) (w : World) : Calls Tryz.prog 149 #[x.val] w fun e w' => e = .returned (.int .i64 (valE x)) ∧ Below w.heap.size w w' := by
  obtain ⟨no, k, a, b, fr, un, kn, gn⟩ := x
  by_cases h1 : k = 1
  · subst h1; exact echk_1 no a b fr un kn gn w
  by_cases h2 : k = 2
  · subst h2; exact echk_2 no a b fr un kn gn w
  by_cases h3 : k = 3
  · subst h3; exact echk_3 no a b fr un kn gn w
  by_cases h4 : k = 4
  · subst h4; exact echk_4 no a b fr un kn gn w
  exact echk_no no k a b fr un kn gn w h1 h2 h3 h4
end Go.Proofs.YthckledagggoiaaGreatDoor

set_option linter.unusedSimpArgs false
set_option linter.unusedVariables false
namespace Go.Proofs.YthckledagggoiaaGreatDoor
open Go.RowKit Fk
/-! The registry: entries are checked. -/
abbrev SlE (w : World) (B0 : Nat) (v : Value) (l : List En) : Prop := SlG 8 En.cells w B0 v l
def okTo (last : Int) : List En → Bool
  | [] => true
  | x :: r => validB x && (decide (last < x.no) && okTo x.no r)
def okL (l : List En) : Bool := okTo (-1) l
def chkE (l : List En) : Int := if 1024 < l.length then 2 else if okL l then 0 else 330
theorem drop_at {l : List En} {k : Nat} (h : k < l.length) : l.drop k = l.getD k default :: l.drop (k + 1) := by
  rw [List.drop_eq_getElem_cons h, List.getD_eq_getElem?_getD, List.getElem?_eq_getElem h]; rfl
theorem entry_cells {w : World} {B0 n c : Nat} {A : Option Addr} {l : List En} (h : SlE w B0 (.slice A n c) l) {k : Nat} (hk : k < l.length) : ∃ b off, A = some ⟨b, off, none⟩ ∧ b < B0 ∧
    w.cell? ⟨b, off + k * 8, none⟩ = some (.int .i64 (l.getD k default).no) ∧ w.cell? ⟨b, off + k * 8 + 1, none⟩ = some (.int .i64 (l.getD k default).kind) ∧ w.cell? ⟨b, off + k * 8 + 2, none⟩ = some (.int .i64 (l.getD k default).a) ∧ w.cell? ⟨b, off + k * 8 + 3, none⟩ = some (.int .i64 (l.getD k default).b) ∧
    w.cell? ⟨b, off + k * 8 + 4, none⟩ = some (.int .i64 (l.getD k default).from_) ∧ w.cell? ⟨b, off + k * 8 + 5, none⟩ = some (.int .i64 (l.getD k default).until_) ∧ w.cell? ⟨b, off + k * 8 + 6, none⟩ = some (.int .i64 (l.getD k default).known) ∧ w.cell? ⟨b, off + k * 8 + 7, none⟩ = some (.int .i64 (l.getD k default).gone) := by
  obtain ⟨_, A', c', hv, hE⟩ := h
  obtain ⟨b, off, rfl, hb, hE⟩ := hE (by omega)
  cases hv
  exact ⟨b, off, rfl, hb, hE k hk 0 (by omega), hE k hk 1 (by omega), hE k hk 2 (by omega), hE k hk 3 (by omega), hE k hk 4 (by omega), hE k hk 5 (by omega), hE k hk 6 (by omega), hE k hk 7 (by omega)⟩
set_option maxRecDepth 100000 in
set_option maxHeartbeats 4000000 in
theorem rcheckl_any (l : List En) (v : Value) (w : World) (h : SlE w w.heap.size v l) :
    Calls Tryz.prog 125 #[v] w fun e w' => e = .returned (.int .i64 (chkE l)) ∧ Below w.heap.size w w' := by
  have hC : chkE l = if 1024 < l.length then 2 else if okL l then 0 else 330 := rfl
  have HS := Lib.hid h
  obtain ⟨hlen, A, c, rfl, _⟩ := h
  by_cases h1 : 1024 < l.length
  · have g1 : (1024 : Int) < l.length := by omega
    have HC := Lib.hid (show chkE l = 2 by rw [hC, if_pos h1])
    clear hC h1
    go_enter Tryz.func125, Tryz.ntmps125
    go_wp2
    go_ret
    exact ⟨by rw [HC.out]; rfl, Below.refl _ _⟩
  have g1 : ¬ (1024 : Int) < l.length := by omega
  rw [if_neg h1] at hC
  have HC := Lib.hid hC
  have hl64 : l.length ≤ 1024 := by omega
  clear hC h1
  go_enter Tryz.func125, Tryz.ntmps125
  go_wp2
  go_loopg [3, 12] l.length (fun g lv iv wr => Below w.heap.size w wr ∧ ∃ (k : Nat) (last : Int), iv = .int .i64 k ∧ lv = .int .i64 last ∧ k + g = l.length ∧ okL l = okTo last (l.drop k))
  case atStart => exact ⟨Below.refl _ _, 0, -1, rfl, rfl, by omega, rfl⟩
  case round =>
    obtain ⟨hBr, k, last, rfl, rfl, hk, hok⟩ := hrel
    by_cases hlt : k < l.length
    · obtain ⟨b, off, rfl, hb, d0, d1, d2, d3, d4, d5, d6, d7⟩ := entry_cells (HS.out.below hBr) hlt
      rw [drop_at hlt] at hok
      obtain ⟨x, hx⟩ : ∃ x, l.getD k default = x := ⟨_, rfl⟩
      rw [hx] at d0 d1 d2 d3 d4 d5 d6 d7 hok
      have hst : okTo last (x :: l.drop (k + 1)) = (validB x && (decide (last < x.no) && okTo x.no (l.drop (k + 1)))) := rfl
      rw [hst] at hok
      have s1 : (0 : Int) ≤ k := by omega
      have s2 : (k : Int) < l.length := by omega
      have hzb : b < wr.heap.size := by have := hBr.size; omega
      have hv := fun w => echk_any x w
      clear hx hst
      cases f : validB x with
      | false =>
        rw [valE_1 f] at hv
        rw [f, Bool.false_and] at hok
        have HR := Lib.hid (show chkE l = 330 by rw [HC.out, hok]; rfl)
        have HV := Lib.hid hv
        unfold En.val at HV
        have hBa := hBr.alloc hBr.size (.cells #[.int .i64 x.no, .int .i64 x.kind, .int .i64 x.a, .int .i64 x.b, .int .i64 x.from_, .int .i64 x.until_, .int .i64 x.known, .int .i64 x.gone] 49)
        clear hv hok f
        go_wp2_with (go_at_call 149; (with_reducible refine (HV.out _).mono ?_); rintro e w1 ⟨rfl, hb1⟩)
        go_ret
        exact ⟨by rw [HR.out]; rfl, hBa.trans (hb1.mono hBa.size)⟩
      | true =>
        rw [valE_0 f] at hv
        rw [f, Bool.true_and] at hok
        have HV := Lib.hid hv
        unfold En.val at HV
        have hBa := hBr.alloc hBr.size (.cells #[.int .i64 x.no, .int .i64 x.kind, .int .i64 x.a, .int .i64 x.b, .int .i64 x.from_, .int .i64 x.until_, .int .i64 x.known, .int .i64 x.gone] 49)
        have r0 := Row.new wr 49 [.int .i64 x.no, .int .i64 x.kind, .int .i64 x.a, .int .i64 x.b, .int .i64 x.from_, .int .i64 x.until_, .int .i64 x.known, .int .i64 x.gone]
        have HR0 := Lib.hid r0
        by_cases hn : x.no ≤ last
        · rw [decide_eq_false (show ¬ last < x.no by omega), Bool.false_and] at hok
          have HR := Lib.hid (show chkE l = 330 by rw [HC.out, hok]; rfl)
          clear hv hok f r0
          go_wp2_with (go_at_call 149; (with_reducible refine (HV.out _).mono ?_); rintro e w1 ⟨rfl, hb1⟩; have r1 := HR0.out.below hb1 HR0.out.lt; have e0 : w1.cell? ⟨wr.heap.size, 0, none⟩ = some (.int .i64 x.no) := r1.cell 0)
          go_ret
          exact ⟨by rw [HR.out]; rfl, hBa.trans (hb1.mono hBa.size)⟩
        · rw [decide_eq_true (show last < x.no by omega), Bool.true_and] at hok
          have HK := Lib.hid hok
          clear hv hok f r0
          go_wp2_with (go_at_call 149; (with_reducible refine (HV.out _).mono ?_); rintro e w1 ⟨rfl, hb1⟩; have r1 := HR0.out.below hb1 HR0.out.lt; have e0 : w1.cell? ⟨wr.heap.size, 0, none⟩ = some (.int .i64 x.no) := r1.cell 0)
          go_roundg (gk - 1)
          case measure => omega
          case rel => exact ⟨hBa.trans (hb1.mono hBa.size), k + 1, x.no, by first | rfl | go_num, rfl, by omega, HK.out⟩
    · obtain rfl : k = l.length := by omega
      rw [List.drop_length] at hok
      have HR := Lib.hid (show chkE l = 0 by rw [HC.out, hok]; rfl)
      clear hok
      go_wp2
      go_ret
      exact ⟨by rw [HR.out]; rfl, hBr⟩
end Go.Proofs.YthckledagggoiaaGreatDoor

set_option linter.unusedSimpArgs false
set_option linter.unusedVariables false
namespace Go.Proofs.YthckledagggoiaaGreatDoor
open Go.RowKit Go.Shelf Fk
attribute [local go_sem] Oper.semAt_some
/-! The registry: the entries that count, one after the other. -/
def cntB (day time : Int) (x : En) : Bool := decide (x.from_ ≤ day) && (decide (day < x.until_) && (decide (x.known ≤ time) && decide (time < x.gone)))
def cntL (day time : Int) (l : List En) : List En := l.filter (cntB day time)
theorem cntL_snoc (day time : Int) (l : List En) (x : En) : cntL day time (l ++ [x]) = if cntB day time x then cntL day time l ++ [x] else cntL day time l := by
  unfold cntL
  rw [List.filter_append, List.filter_cons, List.filter_nil]
  cases cntB day time x <;> simp
theorem takeD {l : List En} {k : Nat} (h : k < l.length) : l.take (k + 1) = l.take k ++ [l.getD k default] := by
  rw [List.take_add_one, List.getD_eq_getElem?_getD, List.getElem?_eq_getElem h]; rfl
theorem cntL_next {day time : Int} {l : List En} {k : Nat} (h : k < l.length) (hc : cntB day time (l.getD k default) = true) : (cntL day time l)[(cntL day time (l.take k)).length]? = some (l.getD k default) := by
  have e : l = l.take k ++ (l.getD k default :: l.drop (k + 1)) := by
    rw [← drop_at h, List.take_append_drop]
  have e2 : cntL day time l = cntL day time (l.take k) ++ (l.getD k default :: cntL day time (l.drop (k + 1))) := by
    unfold cntL
    conv => lhs; rw [e]
    rw [List.filter_append, List.filter_cons, if_pos hc]
  rw [e2, List.getElem?_append_right (Nat.le_refl _), Nat.sub_self]; rfl
abbrev entV (x : En) : Array Value := #[En.val x]
set_option maxRecDepth 100000 in
set_option maxHeartbeats 4000000 in
theorem cnt_seq (l : List En) (v : Value) (day time : Int) (bl bd bt K : Nat) (B0 : Nat) (hK : bl < K ∧ bd < K ∧ bt < K ∧ B0 ≤ K) (m : Nat) (hm : 1 ≤ m) :
    SeqL Fence.wide m Tryz.prog 150 #[.pointer (some ⟨bl, 0, none⟩), .pointer (some ⟨bd, 0, none⟩), .pointer (some ⟨bt, 0, none⟩)] ((cntL day time l).map entV)
      (fun _ => False) (fun r => r = bl ∨ r = bd ∨ r = bt ∨ r < B0) (fun W => Boxed W bl 26 v ∧ Boxed W bd 3 (.int .i64 day) ∧ Boxed W bt 3 (.int .i64 time) ∧ SlE W B0 v l) K := fun L J Jx W hT hK' hJ hJx hY h0 => by
  obtain ⟨hT1, hT2, hT3, hT4⟩ := hT
  have HS := Lib.hid hT4
  obtain ⟨hl, A, c, rfl, _⟩ := hT4
  refine callsIn_of_wp Tryz.func150 rfl trivial ?_ rfl
  simp only [Tryz.ntmps150, List.size_toArray, List.length_cons, List.length_nil, Nat.reduceAdd, Nat.reduceSub, Array.replicate_succ, Array.replicate_zero, List.push_toArray, List.append_toArray, List.nil_append, List.cons_append]
  have c1 := hT1.cell
  gi_wp2
  gi_loopw [6, 9] (fun _ i wr => ∃ k : Nat, i = .int .i64 k ∧ k ≤ l.length ∧ J (cntL day time (l.take k)).length wr ∧ SameOn (fun r => r = bl ∨ r = bd ∨ r = bt ∨ r < B0) W wr ∧ K ≤ wr.heap.size) (fun _ i wr => l.length - (intOf i).toNat)
  case atStart => exact ⟨0, rfl, Nat.zero_le _, h0, SameOn.refl _ _, by omega⟩
  case round =>
    obtain ⟨k, rfl, hk, hJk, hS, hKw⟩ := hrel
    by_cases hlt : k < l.length
    · obtain ⟨b, off, rfl, hb, d0, d1, d2, d3, d4, d5, d6, d7⟩ := entry_cells (HS.out.keep (fun r hr => hS r (.inr (.inr (.inr hr))))) hlt
      have hD : Boxed wr bd 3 (.int .i64 day) := (hS bd (.inr (.inl rfl))).trans hT2
      have hM : Boxed wr bt 3 (.int .i64 time) := (hS bt (.inr (.inr (.inl rfl)))).trans hT3
      have e1 : ∀ x, (wr.alloc x).cell? ⟨bd, 0, none⟩ = some (.int .i64 day) := fun x => (hD.alloc x).cell
      have e2 : ∀ x, (wr.alloc x).cell? ⟨bt, 0, none⟩ = some (.int .i64 time) := fun x => (hM.alloc x).cell
      have hts := takeD hlt
      have hnx := fun h => cntL_next (day := day) (time := time) hlt h
      obtain ⟨x, hx⟩ : ∃ x, l.getD k default = x := ⟨_, rfl⟩
      rw [hx] at d0 d1 d2 d3 d4 d5 d6 d7 hts hnx
      have s1 : (0 : Int) ≤ k := by omega
      have s2 : (k : Int) < l.length := by omega
      have hzb : b < wr.heap.size := by omega
      clear hx c1
      cases ho : cntB day time x with
      | true =>
        have hv : ((cntL day time l).map entV)[(cntL day time (l.take k)).length]? = some (entV x) := by rw [List.getElem?_map, hnx ho]; rfl
        have hln : (cntL day time (l.take (k + 1))).length = (cntL day time (l.take k)).length + 1 := by rw [hts, cntL_snoc, if_pos ho]; simp
        have hJn : J (cntL day time (l.take k)).length (wr.alloc (.cells #[.int .i64 x.no, .int .i64 x.kind, .int .i64 x.a, .int .i64 x.b, .int .i64 x.from_, .int .i64 x.until_, .int .i64 x.known, .int .i64 x.gone] 49)) := hJ.new _ hJk
        obtain ⟨fn, tmps, assign, body, hy, hR⟩ := hY _ _ _ hJn (by simp; omega) hv
        unfold entV En.val at hy
        have HL := Lib.hid hln
        have HV := Lib.hid hv
        unfold cntB at ho
        simp only [Bool.and_eq_true, decide_eq_true_eq] at ho
        obtain ⟨o1, o2, o3, o4⟩ := ho
        clear hln hts hnx hv hJn
        gi_wp2
        refine hR.mono ?_
        rintro e W3 (⟨rfl, hJ3, hS3, hz3⟩ | ⟨rfl, hJx3⟩)
        · gi_wp2
          refine ⟨⟨k + 1, by go_num, by omega, by rw [HL.out]; exact hJ3, ?_, ?_⟩, by simp [intOf]; omega⟩
          · intro r hr
            refine (hS3 r hr).trans ((Below.heap_alloc _ _ r ?_).trans (hS r hr))
            rcases hr with h | h | h | h <;> omega
          · simp at hz3; omega
        · gi_wp2
          refine bodyPost_ret (results_none rfl _ _ _) rfl ?_
          refine ⟨⟨_, rfl⟩, .inr ⟨_, ?_, hJx3⟩⟩
          rw [List.length_map]
          have := HV.out
          rw [List.getElem?_map] at this
          obtain ⟨y, hy, _⟩ := Option.map_eq_some_iff.1 this
          exact (List.getElem?_eq_some_iff.1 hy).1
      | false =>
        have hln : (cntL day time (l.take (k + 1))).length = (cntL day time (l.take k)).length := by rw [hts, cntL_snoc, ho]; rfl
        have HL := Lib.hid hln
        clear hln hts hnx
        unfold cntB at ho
        by_cases o1 : x.from_ ≤ day
        · by_cases o2 : day < x.until_
          · by_cases o3 : x.known ≤ time
            · by_cases o4 : time < x.gone
              · rw [decide_eq_true o1, decide_eq_true o2, decide_eq_true o3, decide_eq_true o4] at ho; cases ho
              clear ho
              gi_wp2
              refine ⟨fun _ h => (by cases h), ?_⟩
              gi_wp2
              refine ⟨⟨k + 1, by go_num, by omega, by rw [HL.out]; exact hJ.new _ hJk, ?_, ?_⟩, by simp [intOf]; omega⟩
              · intro r hr
                refine (Below.heap_alloc _ _ r ?_).trans (hS r hr)
                rcases hr with h | h | h | h <;> omega
              · simp; omega
            clear ho
            gi_wp2
            refine ⟨fun _ h => (by cases h), ?_⟩
            gi_wp2
            refine ⟨⟨k + 1, by go_num, by omega, by rw [HL.out]; exact hJ.new _ hJk, ?_, ?_⟩, by simp [intOf]; omega⟩
            · intro r hr
              refine (Below.heap_alloc _ _ r ?_).trans (hS r hr)
              rcases hr with h | h | h | h <;> omega
            · simp; omega
          clear ho
          gi_wp2
          refine ⟨fun _ h => (by cases h), ?_⟩
          gi_wp2
          refine ⟨⟨k + 1, by go_num, by omega, by rw [HL.out]; exact hJ.new _ hJk, ?_, ?_⟩, by simp [intOf]; omega⟩
          · intro r hr
            refine (Below.heap_alloc _ _ r ?_).trans (hS r hr)
            rcases hr with h | h | h | h <;> omega
          · simp; omega
        clear ho
        gi_wp2
        refine ⟨fun _ h => (by cases h), ?_⟩
        gi_wp2
        refine ⟨⟨k + 1, by go_num, by omega, by rw [HL.out]; exact hJ.new _ hJk, ?_, ?_⟩, by simp [intOf]; omega⟩
        · intro r hr
          refine (Below.heap_alloc _ _ r ?_).trans (hS r hr)
          rcases hr with h | h | h | h <;> omega
        · simp; omega
    · obtain rfl : k = l.length := by omega
      rw [List.take_length] at hJk
      clear c1
      gi_wp2
      go_end0
      exact ⟨⟨_, rfl⟩, .inl (by rw [List.length_map]; exact hJk)⟩
set_option maxHeartbeats 400000 in
theorem counting_any (A : Option Addr) (n c : Nat) (day time : Int) (w : World) :
    Calls Tryz.prog 126 #[.slice A n c, .int .i64 day, .int .i64 time] w fun e w' => e = .returned (.func (.func 150) #[] #[.pointer (some ⟨w.heap.size, 0, none⟩), .pointer (some ⟨w.heap.size + 1, 0, none⟩), .pointer (some ⟨w.heap.size + 2, 0, none⟩)]) ∧
      ((w.alloc (.cells #[.slice A n c] 26)).alloc (.cells #[.int .i64 day] 3)).alloc (.cells #[.int .i64 time] 3) = w' := by
  go_enter Tryz.func126, Tryz.ntmps126
  go_wp2
  go_ret
  exact ⟨rfl, rfl⟩
end Go.Proofs.YthckledagggoiaaGreatDoor
