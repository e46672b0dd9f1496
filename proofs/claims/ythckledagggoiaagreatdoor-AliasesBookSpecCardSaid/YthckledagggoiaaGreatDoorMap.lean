import Derived.Test.YthckledagggoiaaGreatDoorPh
import Derived.MapKept
import Derived.Carry
import GoSem.Instr.MapUpdate
import GoSem.Instr.Lookup
import Derived.Maps.OwnOps
set_option linter.unusedSimpArgs false
set_option linter.unusedVariables false
namespace Fk
open Go Go.MapKept Go.RowKit
/-! Maps that a call itself made, whatever their elements are: what a look-up yields, as a function of the key. -/
section
variable {P : Program} {κ : Type}
/-- What the laws need of the keys' type. -/
structure KeyV (P : Program) (k : TypeId) (kv : κ → Value) : Prop where
  inj : ∀ {a b : κ}, kv a = kv b → a = b
  check : ∀ (em : Bool) (a : κ) (w : World), (Instr.checkKey em 10000 k (kv a)).run P w = .ok () w
  find : ∀ (a : κ) (w : World) (es : List MapEntry), (∀ e ∈ es, ∃ b, e.key = kv b) →
    ((∀ e ∈ es, e.key ≠ kv a) ∧ (Instr.findKey k (kv a) es).run P w = .ok none w) ∨ ∃ j e, es[j]? = some e ∧ e.key = kv a ∧ (Instr.findKey k (kv a) es).run P w = .ok (some (j, e.val)) w
  stays : ∀ (a : κ) (w : World), (Instr.keyThatStays (kv a) (kv a)).run P w = .ok (kv a) w
theorem key_i64 (x : Int) : IsKey (.int .i64) (.int .i64 x) := by simp [IsKey]
theorem intKeyV {k : TypeId} (hk : P.underlying k = some (.int .i64)) : KeyV P k (Value.int .i64) where
  inj h := by injection h
  check em a w := run_checkKey hk (key_i64 a) em 9999
  find a w es h := by
    have hks : ∀ x ∈ es, IsKey (.int .i64) x.key := fun x hx => by
      obtain ⟨b, hb⟩ := h x hx
      rw [hb]; exact key_i64 b
    rcases findNow_spec (key_i64 a) es 0 hks with ⟨h1, h2⟩ | ⟨j, y, h1, h2, h3⟩
    · exact .inl ⟨h2, run_findKey hk h1⟩
    · exact .inr ⟨j, y, h2, h3, by simpa using run_findKey hk h1⟩
  stays a w := run_keyThatStays (key_i64 a)
/-- block b of w is a map whose look-up is f. -/
def MapK (kv : κ → Value) (w : World) (b : Nat) (f : κ → Option Value) : Prop :=
  ∃ es clock, w.heap[b]? = some (.map es clock) ∧ (∀ x ∈ es.toList, ∃ a, x.key = kv a) ∧ es.toList.Pairwise (fun x y => x.key ≠ y.key) ∧
    (∀ x ∈ es.toList, ∀ a, x.key = kv a → f a = some x.val) ∧ (∀ a v, f a = some v → ∃ x ∈ es.toList, x.key = kv a)
noncomputable def updF (f : κ → Option Value) (a : κ) (v : Value) : κ → Option Value := fun x => open Classical in if x = a then some v else f x
theorem updF_same (f : κ → Option Value) (a : κ) (v : Value) : updF f a v a = some v := by unfold updF; rw [if_pos rfl]
theorem updF_ne (f : κ → Option Value) {a x : κ} (v : Value) (h : x ≠ a) : updF f a v x = f x := by unfold updF; rw [if_neg h]
variable {kv : κ → Value} {w w' : World} {b : Nat} {f : κ → Option Value} {t k e : TypeId}
theorem MapK.lt (h : MapK kv w b f) : b < w.heap.size := by
  obtain ⟨es, c, h1, _⟩ := h
  exact (Array.getElem?_eq_some_iff.1 h1).1
theorem MapK.keep (h : MapK kv w b f) (hk : w'.heap[b]? = w.heap[b]?) : MapK kv w' b f := by
  obtain ⟨es, c, h1, h2⟩ := h
  exact ⟨es, c, hk.trans h1, h2⟩
theorem MapK.below {n : Nat} (h : MapK kv w b f) (hb : Below n w w') (hn : b < n) : MapK kv w' b f := h.keep (hb.block _ hn)
theorem MapK.alloc (h : MapK kv w b f) (o : Obj) : MapK kv (w.alloc o) b f := h.keep (Below.heap_alloc w _ _ h.lt)
theorem MapK.made (kv : κ → Value) (w : World) : MapK kv (w.alloc (.map #[] 0)) w.heap.size (fun _ => none) :=
  ⟨#[], 0, World.alloc_heap_new w _, by simp, by simp, by simp, fun a v h => by cases h⟩
theorem MapK.look (K : KeyV P k kv) (ht : P.underlying t = some (.map k e)) {z : Value} (hz : (zeroValue e).run P w = .ok z w) (h : MapK kv w b f) (a : κ) (c : Bool) :
    (Instr.lookup t (.map (some b)) (kv a) c).run P w = .ok (if c then .tuple #[(f a).getD z, .bool (f a).isSome] else (f a).getD z) w := by
  obtain ⟨es, cl, hb, hks, hp, h1, h2⟩ := h
  rcases K.find a w es.toList hks with ⟨hno, hr⟩ | ⟨j, y, hj, hy, hr⟩
  · have hn : f a = none := by
      cases hf : f a with
      | none => rfl
      | some v => obtain ⟨x, hx, hx2⟩ := h2 a v hf; exact absurd hx2 (hno x hx)
    rw [hn]
    simp [Instr.lookup, run_underlying ht, run_getObj_map hb, K.check _ a w, hr, hz, Result.andThen]
  · have hv := h1 y (List.mem_of_getElem? hj) a hy
    rw [hv]
    simp [Instr.lookup, run_underlying ht, run_getObj_map hb, K.check _ a w, hr, Result.andThen]
theorem MapK.put (K : KeyV P k kv) (ht : P.underlying t = some (.map k e)) (h : MapK kv w b f) (a : κ) (v : Value) :
    ∃ w', (Instr.mapUpdate t (.map (some b)) (kv a) v).run P w = .ok () w' ∧ MapK kv w' b (updF f a v) ∧ w.grownBy w' (some b) := by
  obtain ⟨es, c, hb, hks, hp, h1, h2⟩ := h
  rcases K.find a w es.toList hks with ⟨hno, hr⟩ | ⟨j, y, hj, hy, hr⟩
  · refine ⟨{ w with heap := w.heap.setIfInBounds b (.map (es.push { key := kv a, val := v, born := c }) (c + 1)) }, ?_, ⟨_, _, (heap_set hb).1, ?_, ?_, ?_, ?_⟩, ?_⟩
    · simp [Instr.mapUpdate, run_underlying ht, run_getObj_map hb, K.check _ a w, hr, run_setObj_map _ hb, Result.andThen]
    · intro x hx
      rw [Array.toList_push] at hx
      rcases List.mem_append.1 hx with hx | hx
      · exact hks x hx
      · simp at hx; rw [hx]; exact ⟨a, rfl⟩
    · rw [Array.toList_push, List.pairwise_append]
      refine ⟨hp, by simp, fun x hx y hy => ?_⟩
      simp at hy
      rw [hy]
      exact hno x hx
    · intro x hx a' ha'
      rw [Array.toList_push] at hx
      rcases List.mem_append.1 hx with hx | hx
      · have hne : a' ≠ a := fun e => hno x hx (by rw [ha', e])
        rw [updF_ne _ _ hne]
        exact h1 x hx a' ha'
      · simp at hx
        rw [hx] at ha'
        have : a = a' := K.inj ha'
        rw [← this, hx, updF_same]
    · intro a' v' hv
      rw [Array.toList_push]
      by_cases hne : a' = a
      · exact ⟨{ key := kv a, val := v, born := c }, by simp, by rw [hne]⟩
      · rw [updF_ne _ _ hne] at hv
        obtain ⟨x, hx, hx2⟩ := h2 a' v' hv
        exact ⟨x, by simp [hx], hx2⟩
    · exact ⟨rfl, rfl, rfl, by simp, fun i _ hi => (heap_set hb).2 i (fun e => hi (by rw [e]))⟩
  · have hjl : j < es.toList.length := (List.getElem?_eq_some_iff.1 hj).1
    have hja : es[j]? = some y := by simpa using hj
    have hlist : (es.modify j (fun e' => { e' with key := kv a, val := v })).toList = es.toList.set j { y with key := kv a, val := v } := by
      apply List.ext_getElem?
      intro i
      by_cases hi : i = j
      · subst hi
        simp [hja, hjl]
        have : i < es.size := by simpa using hjl
        simp [this]
      · simp [Array.getElem?_modify, List.getElem?_set, Ne.symm hi, fun e : j = i => hi e.symm]
    have hkeys : (es.toList.set j { y with key := kv a, val := v }).map (fun x => x.key) = es.toList.map (fun x => x.key) := by
      rw [List.map_set]
      have : (es.toList.map (fun x => x.key))[j]? = some (kv a) := by rw [List.getElem?_map, hj, Option.map_some, hy]
      obtain ⟨hl, he⟩ := List.getElem?_eq_some_iff.1 this
      show (es.toList.map (fun x => x.key)).set j (kv a) = _
      rw [← he]
      exact List.set_getElem_self hl
    refine ⟨{ w with heap := w.heap.setIfInBounds b (.map (es.modify j (fun e' => { e' with key := kv a, val := v })) c) }, ?_, ⟨_, _, (heap_set hb).1, ?_, ?_, ?_, ?_⟩, ?_⟩
    · simp [Instr.mapUpdate, run_underlying ht, run_getObj_map hb, K.check _ a w, hr, hja, hy, K.stays a w, run_setObj_map _ hb, Result.andThen]
    · intro x hx
      rw [hlist] at hx
      have : x.key ∈ (es.toList.set j { y with key := kv a, val := v }).map (fun x => x.key) := List.mem_map.2 ⟨x, hx, rfl⟩
      rw [hkeys] at this
      obtain ⟨x', hx', e⟩ := List.mem_map.1 this
      rw [← e]; exact hks x' hx'
    · rw [hlist]
      have h3 : (es.toList.map (fun x => x.key)).Pairwise (fun p q => p ≠ q) := List.pairwise_map.2 hp
      rw [← hkeys] at h3
      exact List.pairwise_map.1 h3
    · intro x hx a' ha'
      rw [hlist] at hx
      obtain ⟨i, hi, ex⟩ := List.getElem_of_mem hx
      rw [List.getElem_set] at ex
      split at ex
      · rw [← ex] at ha' ⊢
        have : a = a' := K.inj ha'
        rw [← this, updF_same]
      · rename_i hne
        have hi' : i < es.toList.length := by simpa using hi
        have hxm : x ∈ es.toList := ex ▸ List.getElem_mem hi'
        have hne' : a' ≠ a := fun e => by
          have hk1 : x.key = y.key := by rw [ha', e, hy]
          have hy2 := (List.getElem?_eq_some_iff.1 hj).2
          rcases Nat.lt_trichotomy i j with h | h | h
          · have := List.pairwise_iff_getElem.1 hp i j hi' hjl h
            rw [ex, hy2] at this
            exact this hk1
          · exact hne h.symm
          · have := List.pairwise_iff_getElem.1 hp j i hjl hi' h
            rw [ex, hy2] at this
            exact this hk1.symm
        rw [updF_ne _ _ hne']
        exact h1 x hxm a' ha'
    · intro a' v' hv
      rw [hlist]
      have key : ∃ x ∈ es.toList, x.key = kv a' := by
        by_cases hne : a' = a
        · exact ⟨y, List.mem_of_getElem? hj, by rw [hne, hy]⟩
        · rw [updF_ne _ _ hne] at hv
          exact h2 a' v' hv
      obtain ⟨x, hx, hx2⟩ := key
      have : x.key ∈ es.toList.map (fun x => x.key) := List.mem_map.2 ⟨x, hx, rfl⟩
      rw [← hkeys] at this
      obtain ⟨x', hx', e⟩ := List.mem_map.1 this
      exact ⟨x', hx', by rw [e, hx2]⟩
    · exact ⟨rfl, rfl, rfl, by simp, fun i _ hi => (heap_set hb).2 i (fun e => hi (by rw [e]))⟩
/-- 'm[k] = v' and a literal's entry, at the operation. -/
theorem wpList_put {ops : Array Oper} {rest : List Oper} {o : Oper} {a : Act} {Q : Exit → Act → World → Prop}
    (hg : o.guard = none) (m x v : Operand) (t : TypeId) (hop : o.op = Op.mapUpdate t m x v ∨ o.op = Op.insert t m x v)
    (k e : TypeId) (K : KeyV P k kv) (ht : P.underlying t = some (.map k e)) (b : Nat) (f : κ → Option Value) (hm : a.eval m = .map (some b)) (h : MapK kv w b f) (key : κ) (hx : a.eval x = kv key) (val : Value) (hv : a.eval v = val)
    (hK : ∀ w', MapK kv w' b (updF f key val) → w.grownBy w' (some b) → wpList P ops Q rest (a.put o.dst undef) w') :
    wpList P ops Q (o :: rest) a w := by
  refine wpList_plain hg fun K' hK' => ?_
  obtain ⟨w', hrun, r1, r2⟩ := h.put K ht key val
  unfold Oper.wp
  rcases hop with hop | hop
  · simp [execOp, hop, hm, hx, hv, hrun, Result.andThen]
    exact hK' _ _ (hK w' r1 r2)
  · simp [execOp, hop, hm, hx, hv, hrun, Result.andThen]
    exact hK' _ _ (hK w' r1 r2)
/-- 'm[k]' and 'v, ok := m[k]' at the operation. -/
theorem wpList_look {ops : Array Oper} {rest : List Oper} {o : Oper} {a : Act} {Q : Exit → Act → World → Prop}
    (hg : o.guard = none) (m x : Operand) (t : TypeId) (c : Bool) (hop : o.op = Op.lookup t m x c)
    (k e : TypeId) (K : KeyV P k kv) (ht : P.underlying t = some (.map k e)) {z : Value} (hz : (zeroValue e).run P w = .ok z w) (b : Nat) (f : κ → Option Value) (hm : a.eval m = .map (some b)) (h : MapK kv w b f) (key : κ) (hx : a.eval x = kv key)
    (hK : wpList P ops Q rest (a.put o.dst (if c then .tuple #[(f key).getD z, .bool (f key).isSome] else (f key).getD z)) w) :
    wpList P ops Q (o :: rest) a w := by
  refine wpList_plain hg fun K' hK' => ?_
  have hrun := h.look K ht hz key c
  unfold Oper.wp
  simp [execOp, hop, hm, hx, hrun, Result.andThen]
  exact hK' _ _ hK
end
end Fk
