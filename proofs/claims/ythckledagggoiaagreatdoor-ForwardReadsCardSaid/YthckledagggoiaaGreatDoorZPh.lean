import Derived.Test.YthckledagggoiaaGreatDoorZPgc
import Derived.Below
import Derived.MapKept
import GoSem.Instr.MapUpdate
import GoSem.Instr.Lookup
/-! A drawn region's head in one given order, where the tail may store to what the head loads: an operation of the head need be apart from those of the head alone, for the tail waits. -/
namespace Fk
open Go
section
variable {P : Program} {ops : Array Oper} {Q : Exit → Act → World → Prop} {md : Region.Mode} {S : World → Prop} {n : Nat}
def freeT (md : Region.Mode) (ops : Array Oper) (n : Nat) (listed : Array Bool) (i : Nat) : Bool :=
  match ops[i]? with
  | none => false
  | some oi => (List.range n).all fun j => j == i || listed.getD j true || match ops[j]? with
      | some oj => oj.after.any (fun e => Region.binds md e && e.on == i) || oi.apart ops oj
      | none => true
theorem freeT_spec {i : Nat} {oi : Oper} {listed : Array Bool} (hi : ops[i]? = some oi) (h : freeT md ops n listed i = true) (j : Nat) (oj : Oper) (hjn : j < n)
    (hj : ops[j]? = some oj) (hne : j ≠ i) (hun : listed.getD j true = false) (hno : ∀ e ∈ oj.after, Region.binds md e = true → e.on ≠ i) :
    oi.apart ops oj = true := by
  simp only [freeT, hi, List.all_eq_true, List.mem_range] at h
  have h1 := h j hjn
  simp only [hj, Bool.or_eq_true, beq_iff_eq, hne, false_or, hun, Bool.false_eq_true] at h1
  rcases h1 with h1 | h1
  · obtain ⟨e, he, hb⟩ := Array.any_eq_true'.1 h1
    simp only [Bool.and_eq_true, beq_iff_eq] at hb
    exact absurd hb.2 (hno e he hb.1)
  · exact h1
theorem wpAnyG_firstT {fr : List Nat} {i : Nat} {oi : Oper} {v : Value} (hi : ops[i]? = some oi) (hsel : ∀ (j : Nat) (o : Oper) cs b, ops[j]? = some o → o.op ≠ .select cs b)
    (hs : sinkF md ops n fr = true) (hc : Region.chainB md ops n = true) (hn : n < ops.size) (hin : i < n) (hfi : fr.contains i = false)
    (hQ : ∀ c a w, Q (.panic c) (a.put oi.dst v) w → Q (.panic c) a w) :
    ∀ (fuel : Nat) (listed : Array Bool) (a : Act) (w : World), HeadInv md ops n listed → FrDone n fr listed →
      (∀ j oj, j < n → ops[j]? = some oj → j ≠ i → listed.getD j true = false → (∀ e ∈ oj.after, Region.binds md e = true → e.on ≠ i) → oi.apart ops oj = true) →
      i ∈ Region.ready md ops listed → YieldsIf P ops S oi v a → S w →
      wpAnyG P md ops Q S n fr fuel (listed.setIfInBounds i true) (a.put oi.dst v) w → wpAnyG P md ops Q S n fr (fuel + 1) listed a w := by
  intro fuel
  induction fuel with
  | zero =>
    intro listed a w _ _ _ hr hy hS H
    refine ⟨fun h => (by rw [h] at hr; cases hr), fun j hj => ?_⟩
    by_cases hji : j = i
    · subst hji; exact hy.wpOp hi hS ⟨fun _ => hS, H⟩
    · have := ready_mono hj hji
      rw [H.1] at this
      cases this
  | succ fuel ih =>
    intro listed a w inv hfd hfree hr hy hS H
    have hun := (mem_ready.1 hr).1
    refine ⟨fun h => (by rw [h] at hr; cases hr), fun j hj => ?_⟩
    have hjn : j < n := by
      rcases Nat.lt_or_ge j n with h | h
      · exact h
      · exact absurd hj (tail_waitsF hs hc hn inv _ i rfl hin hfi hun j h)
    by_cases hji : j = i
    · subst hji; exact hy.wpOp hi hS ⟨fun _ => hS, H⟩
    · have h1 := H.2 j (ready_mono hj hji)
      obtain ⟨hjun, oj, hoj, hall⟩ := mem_ready.1 hj
      have hjh : heldB n fr j = true := by
        cases hb : heldB n fr j with
        | true => rfl
        | false => have := hfd j hjn hb; rw [hjun] at this; cases this
      have hnot : ∀ e ∈ oj.after, Region.binds md e = true → e.on ≠ i := fun e he hb heq => by
        have h1 := hall e he hb
        rw [heq, getD_both hun] at h1
        cases h1
      have h2 := wpOp_putIf hoj (hfree j oj hjn hoj hji hjun hnot) (fun cs b => hsel i oi cs b hi) (fun cs b => hsel j oj cs b hoj) hQ hy h1
      have hfree' : ∀ k ok, k < n → ops[k]? = some ok → k ≠ i → (listed.setIfInBounds j true).getD k true = false →
          (∀ e ∈ ok.after, Region.binds md e = true → e.on ≠ i) → oi.apart ops ok = true := fun k ok hkn hk hki hun hno => by
        refine hfree k ok hkn hk hki ?_ hno
        by_cases hjk : j = k
        · subst hjk; exact hjun
        · rw [getD_set_ne true hjk] at hun; exact hun
      have hfd' : FrDone n fr (listed.setIfInBounds j true) := fun k hk hb => by
        by_cases hjk : j = k
        · subst hjk; rw [hjh] at hb; cases hb
        · rw [getD_set_ne true hjk]; exact hfd k hk hb
      refine wpOp_mono (fun a' w' h3 => ⟨h3.2.1, ih (listed.setIfInBounds j true) a' w' (inv.set hj hjn) hfd' hfree' (ready_mono hr (Ne.symm hji)) h3.1 (h3.2.1 hjh) ?_⟩) h2
      rw [Array.setIfInBounds_comm _ _ hji]
      exact h3.2.2
theorem frDone_nil (listed : Array Bool) : FrDone n [] listed := fun i hi hb => by
  exfalso; simp [heldB, hi] at hb
end
end Fk

/-! A drawn region whose head may come in more than one order: a tree of orders; the tail waits for the head. -/
namespace Fk
open Go
inductive Tree where
  | done
  | take (k : Nat) (t : Tree)
  | one (k : Nat) (t : Tree)
  | two (i : Nat) (s : Tree) (j : Nat) (t : Tree)
section
variable {P : Program} {ops : Array Oper} {Q : Exit → Act → World → Prop} {md : Region.Mode} {S : World → Prop} {n : Nat}
/-- every path is m steps long -/
def treeB (md : Region.Mode) (ops : Array Oper) (n : Nat) : Nat → Tree → Array Bool → Bool
  | m, .done, listed => decide (m = 0) && Region.seqB md ops (ops.size - n) n listed
  | m + 1, .take k t, listed => decide (k < n) && (Region.ready md ops listed).contains k && freeT md ops n listed k && treeB md ops n m t (listed.setIfInBounds k true)
  | m + 1, .one k t, listed => decide (k < n) && decide (Region.ready md ops listed = [k]) && treeB md ops n m t (listed.setIfInBounds k true)
  | m + 1, .two i s j t, listed => decide (i < n) && decide (j < n) && decide (Region.ready md ops listed = [i, j]) && treeB md ops n m s (listed.setIfInBounds i true) && treeB md ops n m t (listed.setIfInBounds j true)
  | 0, _, _ => false
def wpTree (P : Program) (ops : Array Oper) (Q : Exit → Act → World → Prop) (S : World → Prop) (tl : List Oper) : Tree → Act → World → Prop
  | .done, a, w => wpList P ops Q tl a w
  | .take k t, a, w => ∃ o v, ops[k]? = some o ∧ YieldsIf P ops S o v a ∧ wpTree P ops Q S tl t (a.put o.dst v) w
  | .one k t, a, w => ∃ o, ops[k]? = some o ∧ if Region.wanted o (yielded ops a.tmps) then o.wp P a w (fun a' w' => S w' ∧ wpTree P ops Q S tl t a' w') Q else wpTree P ops Q S tl t (a.put o.dst undef) w
  | .two i s j t, a, w => (∃ o, ops[i]? = some o ∧ if Region.wanted o (yielded ops a.tmps) then o.wp P a w (fun a' w' => S w' ∧ wpTree P ops Q S tl s a' w') Q else wpTree P ops Q S tl s (a.put o.dst undef) w) ∧
    (∃ o, ops[j]? = some o ∧ if Region.wanted o (yielded ops a.tmps) then o.wp P a w (fun a' w' => S w' ∧ wpTree P ops Q S tl t a' w') Q else wpTree P ops Q S tl t (a.put o.dst undef) w)
theorem tree_op {K : Act → World → Prop} {L : Act → World → Prop} {k : Nat} {a : Act} {w : World} (hS : S w) (h : ∃ o, ops[k]? = some o ∧ if Region.wanted o (yielded ops a.tmps) then o.wp P a w (fun a' w' => S w' ∧ K a' w') Q else K (a.put o.dst undef) w)
    (hK : ∀ a w, S w → K a w → L a w) : wpOp P ops Q k L a w := by
  obtain ⟨o, ho, h⟩ := h
  unfold wpOp
  simp only [ho]
  split
  · rename_i hw
    rw [if_pos hw] at h
    exact .inl (Oper.wp_mono (fun a' w' h' => hK a' w' h'.1 h'.2) h)
  · rename_i hw
    rw [if_neg hw] at h
    exact hK _ _ hS h
theorem tree_sound (hQ : ∀ c a (d : Option Tmp) v w, Q (.panic c) (Act.put a d v) w → Q (.panic c) a w) (hsel : Region.noSelect ops = true) (hs : sinkF md ops n [] = true) (hc : Region.chainB md ops n = true) (hn : n < ops.size)
    (tl : List Oper) (htl : ∀ j, tl[j]? = ops[n + j]?) (hlen : tl.length = ops.size - n) :
    ∀ (t : Tree) (m : Nat) (listed : Array Bool) (a : Act) (w : World), HeadInv md ops n listed → treeB md ops n m t listed = true → S w →
      wpTree P ops Q S tl t a w → wpAnyG P md ops Q S n [] (m + (ops.size - n)) listed a w
  | .done, m, listed, a, w, _, hB, _, h => by
    simp only [treeB, Bool.and_eq_true, decide_eq_true_eq] at hB
    rw [hB.1, Nat.zero_add, ← hlen]
    exact wpAnyG_seq tl n listed a w (Nat.le_refl _) htl (by rw [hlen]; exact hB.2) h
  | .take k t, 0, listed, a, w, inv, hB, hS, h => by cases hB
  | .one k t, 0, listed, a, w, inv, hB, hS, h => by cases hB
  | .two i s j t, 0, listed, a, w, inv, hB, hS, h => by cases hB
  | .take k t, m + 1, listed, a, w, inv, hB, hS, h => by
    obtain ⟨o, v, ho, hy, h⟩ := h
    simp only [treeB, Bool.and_eq_true, decide_eq_true_eq] at hB
    obtain ⟨⟨⟨h1, h2⟩, h3⟩, h4⟩ := hB
    have hr : k ∈ Region.ready md ops listed := by simpa using h2
    rw [show m + 1 + (ops.size - n) = (m + (ops.size - n)) + 1 by omega]
    exact wpAnyG_firstT ho (Region.noSelect_spec hsel) hs hc hn h1 rfl (fun c a w => hQ c a o.dst v w) _ listed a w inv (frDone_nil _) (freeT_spec ho h3) hr hy hS
      (tree_sound hQ hsel hs hc hn tl htl hlen t m _ _ w (inv.set hr h1) h4 hS h)
  | .one k t, m + 1, listed, a, w, inv, hB, hS, h => by
    simp only [treeB, Bool.and_eq_true, decide_eq_true_eq] at hB
    obtain ⟨⟨h1, h2⟩, h4⟩ := hB
    have hr : k ∈ Region.ready md ops listed := by rw [h2]; simp
    rw [show m + 1 + (ops.size - n) = (m + (ops.size - n)) + 1 by omega]
    refine ⟨fun h0 => (by rw [h0] at hr; cases hr), fun i hi => ?_⟩
    rw [h2] at hi
    obtain rfl : i = k := by simpa using hi
    exact tree_op hS h (fun a' w' hS' h' => ⟨fun _ => hS', tree_sound hQ hsel hs hc hn tl htl hlen t m _ a' w' (inv.set hr h1) h4 hS' h'⟩)
  | .two i s j t, m + 1, listed, a, w, inv, hB, hS, h => by
    simp only [treeB, Bool.and_eq_true, decide_eq_true_eq] at hB
    obtain ⟨⟨⟨⟨h1, h1'⟩, h2⟩, h4⟩, h5⟩ := hB
    have hri : i ∈ Region.ready md ops listed := by rw [h2]; simp
    have hrj : j ∈ Region.ready md ops listed := by rw [h2]; simp
    rw [show m + 1 + (ops.size - n) = (m + (ops.size - n)) + 1 by omega]
    refine ⟨fun h0 => (by rw [h0] at hri; cases hri), fun k hk => ?_⟩
    rw [h2] at hk
    simp only [List.mem_cons, List.not_mem_nil, or_false] at hk
    rcases hk with rfl | rfl
    · exact tree_op hS h.1 (fun a' w' hS' h' => ⟨fun _ => hS', tree_sound hQ hsel hs hc hn tl htl hlen s m _ a' w' (inv.set hri h1) h4 hS' h'⟩)
    · exact tree_op hS h.2 (fun a' w' hS' h' => ⟨fun _ => hS', tree_sound hQ hsel hs hc hn tl htl hlen t m _ a' w' (inv.set hrj h1') h5 hS' h'⟩)
def regTree (ops : Array Oper) (n : Nat) (t : Tree) : Bool :=
  Region.noSelect ops && decide (n < ops.size) && sinkF .any ops n [] && Region.chainB .any ops n && treeB .any ops n n t (Array.replicate ops.size false)
theorem regTree_any {l : List Oper} {a : Act} {w : World} (n : Nat) (t : Tree) (S : World → Prop) (hB : regTree l.toArray n t = true)
    (hQ : ∀ c a (d : Option Tmp) v w, Q (.panic c) (Act.put a d v) w → Q (.panic c) a w) (hS : S w) (h : wpTree P l.toArray Q S (l.drop n) t a w) : wpAny P .any l.toArray Q l.toArray.size (Array.replicate l.toArray.size false) a w := by
  simp only [regTree, Bool.and_eq_true, decide_eq_true_eq] at hB
  obtain ⟨⟨⟨⟨hsel, hn⟩, hs⟩, hc⟩, hord⟩ := hB
  have inv0 : HeadInv .any l.toArray n (Array.replicate l.toArray.size false) :=
    ⟨by simp, fun j oj _ hl => (by rw [getD_replicate_false] at hl; cases hl), fun t _ ht => getD_in (by simpa using ht) (getD_replicate_false _ _)⟩
  have := tree_sound (P := P) (Q := Q) (S := S) hQ hsel hs hc hn (l.drop n) (fun j => by simp [List.getElem?_drop]) (by simp) t n _ a w inv0 hord hS h
  rw [show n + (l.toArray.size - n) = l.toArray.size by omega] at this
  exact wpAny_of_G _ _ _ _ this
theorem wp_region_tree {id : Nat} {a : Act} {w : World} {l : List Oper} (n : Nat) (t : Tree) (S : World → Prop) (hm : P.follows .mixedOrders = true) (hB : regTree l.toArray n t = true)
    (hQ : ∀ c a (d : Option Tmp) v w, Q (.panic c) (Act.put a d v) w → Q (.panic c) a w) (hS : S w.drew) (h : wpTree P l.toArray Q S (l.drop n) t a w.drew) : (Code.region id l.toArray true).wp P Q a w :=
  wp_region_any hm (regTree_any n t S hB hQ hS h)
/-! ### the steps -/
variable {tl : List Oper}
theorem wpTree_take {k : Nat} {t : Tree} {o : Oper} {v : Value} {a : Act} {w : World} (ho : ops[k]? = some o) (hw : Region.wanted o (yielded ops a.tmps) = true)
    (hy : ∀ w, S w → (execOp a.eval o).run P w = .ok (.value v) w) (h : wpTree P ops Q S tl t (a.put o.dst v) w) : wpTree P ops Q S tl (.take k t) a w :=
  ⟨o, v, ho, .inl ⟨hw, hy⟩, h⟩
theorem wpTree_one {k : Nat} {t : Tree} {o : Oper} {a : Act} {w : World} (ho : ops[k]? = some o)
    (h : ∀ K : Act → World → Prop, (∀ a w, S w → wpTree P ops Q S tl t a w → K a w) → Region.wanted o (yielded ops a.tmps) = true ∧ o.wp P a w K Q) : wpTree P ops Q S tl (.one k t) a w := by
  obtain ⟨h1, h2⟩ := h (fun a' w' => S w' ∧ wpTree P ops Q S tl t a' w') (fun _ _ h1 h2 => ⟨h1, h2⟩)
  exact ⟨o, ho, by rw [if_pos h1]; exact h2⟩
theorem wpTree_done {a : Act} {w : World} (h : wpList P ops Q tl a w) : wpTree P ops Q S tl .done a w := h
end
end Fk

/-! A drawn region that begins with operations that each lay a new block, in whatever order: what follows is shown once, for all numbers of the blocks. -/
namespace Fk
open Go Go.RowKit
section
variable {P : Program} {ops : Array Oper} {Q : Exit → Act → World → Prop} {md : Region.Mode} {n : Nat}
def fullL (s n : Nat) : Array Bool := (Array.range s).map fun i => decide (i < n)
end
end Fk

/-! A drawn region whose head's operations each have one result in whatever order: every one of them, in whatever world that meets S, yields one value and keeps S. What follows is shown once, behind the head in the text's own order. -/
namespace Fk
open Go Go.RowKit
section
variable {P : Program} {ops : Array Oper} {Q : Exit → Act → World → Prop} {S : World → Prop} {n : Nat}
def NoP : Exit → Act → World → Prop := fun _ _ _ => False
/-- In act a, in whatever world that meets S, operation o yields v, and S holds behind it. -/
def Settles (P : Program) (ops : Array Oper) (S : World → Prop) (o : Oper) (v : Value) (a : Act) : Prop :=
  (Region.wanted o (yielded ops a.tmps) = true ∧ ∀ w, S w → o.wp P a w (fun a' w' => a' = a.put o.dst v ∧ S w') NoP) ∨ (Region.wanted o (yielded ops a.tmps) = false ∧ v = undef)
/-- m operations from number k on, one after the other. -/
def wpDet (P : Program) (ops : Array Oper) (S : World → Prop) (F : Act → Prop) : Nat → Nat → Act → Prop
  | 0, _, a => F a
  | m + 1, k, a => ∃ o v, ops[k]? = some o ∧ Settles P ops S o v a ∧ wpDet P ops S F m (k + 1) (a.put o.dst v)
theorem wpDet_path {F : Act → Prop} : ∀ (m k : Nat) (a : Act), wpDet P ops S F m k a →
    ∃ A : Nat → Act, A k = a ∧ (∀ i, k ≤ i → i < k + m → ∃ o v, ops[i]? = some o ∧ Settles P ops S o v (A i) ∧ A (i + 1) = (A i).put o.dst v) ∧ F (A (k + m))
  | 0, k, a, h => ⟨fun _ => a, rfl, fun i h1 h2 => absurd h2 (by omega), h⟩
  | m + 1, k, a, h => by
    obtain ⟨o, v, ho, hs, h⟩ := h
    obtain ⟨A, hA, hp, hf⟩ := wpDet_path m (k + 1) _ h
    refine ⟨fun i => if i = k then a else A i, by simp, fun i h1 h2 => ?_, ?_⟩
    · by_cases e : i = k
      · subst e
        refine ⟨o, v, ho, by simpa using hs, ?_⟩
        simp [hA]
      · obtain ⟨o', v', h3, h4, h5⟩ := hp i (by omega) (by omega)
        refine ⟨o', v', h3, by simpa [e] using h4, ?_⟩
        simp only [if_neg e, if_neg (show i + 1 ≠ k by omega)]
        exact h5
    · simp only [if_neg (show k + (m + 1) ≠ k by omega)]
      rw [show k + (m + 1) = k + 1 + m by omega]
      exact hf
def detB (ops : Array Oper) (n : Nat) : Bool :=
  Region.noSelect ops && decide (n < ops.size) && Region.sinkB .any ops n && Region.chainB .any ops n && Region.seqB .any ops (ops.size - n) n (fullL ops.size n) &&
  (List.range n).all fun i => match ops[i]? with
    | some o => (o.after.all fun e => !Region.binds .any e || decide (e.on < i)) && (List.range n).all fun k => match ops[k]? with
      | some ok => (match ok.dst with | some d => (decide (k = i) || o.dst != some d) && (!(o.looksAt ops).contains d || Region.waitsFor .any ops i k) | none => true)
      | none => true
    | none => false
structure DetInv (ops : Array Oper) (n : Nat) (A : Nat → Act) (L : Nat → Prop) (a : Act) : Prop where
  df : a.defers = (A 0).defers
  sz : a.tmps.size = (A 0).tmps.size
  on : ∀ k o d, k < n → L k → ops[k]? = some o → o.dst = some d → a.tmps[d]? = (A n).tmps[d]?
  off : ∀ t, (∀ k o, k < n → L k → ops[k]? = some o → o.dst ≠ some t) → a.tmps[t]? = (A 0).tmps[t]?
theorem Act.put_at (a : Act) (d : Option Tmp) (v : Value) (t : Tmp) (h : d ≠ some t) : (a.put d v).tmps[t]? = a.tmps[t]? := by
  cases d with
  | none => rfl
  | some d => exact Array.getElem?_setIfInBounds_ne (fun e => h (by rw [e]))
theorem Act.put_size (a : Act) (d : Option Tmp) (v : Value) : (a.put d v).tmps.size = a.tmps.size ∧ (a.put d v).defers = a.defers := by
  cases d <;> simp [Act.put]
theorem Act.put_here {a b : Act} (h : a.tmps.size = b.tmps.size) (d : Tmp) (v : Value) : (a.put (some d) v).tmps[d]? = (b.put (some d) v).tmps[d]? := by
  by_cases hd : d < a.tmps.size
  · simp [Act.put, hd, h ▸ hd]
  · simp [Act.put, hd, h ▸ hd]
theorem Act.put_same {a b : Act} (h : a.tmps.size = b.tmps.size) {d : Option Tmp} {u v : Value} (e : b.put d u = b.put d v) : a.put d u = a.put d v := by
  cases d with
  | none => rfl
  | some d =>
    by_cases hd : d < b.tmps.size
    · have : (b.put (some d) u).tmps[d]? = (b.put (some d) v).tmps[d]? := by rw [e]
      simp [Act.put, hd] at this
      rw [this]
    · have hd' : ¬ d < a.tmps.size := by rw [h]; exact hd
      simp [Act.put, Array.setIfInBounds, hd']
section
variable {A : Nat → Act}
theorem det_far (hd : ∀ i k oi ok d, i < n → k < n → ops[i]? = some oi → ops[k]? = some ok → ok.dst = some d → k ≠ i → oi.dst ≠ some d)
    (hA : ∀ i, i < n → ∃ o v, ops[i]? = some o ∧ Settles P ops S o v (A i) ∧ A (i + 1) = (A i).put o.dst v) {k : Nat} {ok : Oper} {d : Tmp} (hk : k < n) (ho : ops[k]? = some ok) (hdst : ok.dst = some d) :
    ∀ j, k < j → j ≤ n → (A j).tmps[d]? = (A (k + 1)).tmps[d]? := by
  intro j
  induction j with
  | zero => intro h; omega
  | succ j ih =>
    intro h1 h2
    by_cases e : j = k
    · rw [e]
    · obtain ⟨o, v, h3, _, h5⟩ := hA j (by omega)
      rw [h5, Act.put_at _ _ _ _ (hd j k o ok d (by omega) hk h3 ho hdst (by omega))]
      exact ih (by omega) (by omega)
theorem det_base (hA : ∀ i, i < n → ∃ o v, ops[i]? = some o ∧ Settles P ops S o v (A i) ∧ A (i + 1) = (A i).put o.dst v)
    (hd : ∀ i k oi ok d, i < n → k < n → ops[i]? = some oi → ops[k]? = some ok → ok.dst = some d → k ≠ i → oi.dst ≠ some d) : ∀ i, i ≤ n → DetInv ops n A (fun k => k < i) (A i) := by
  intro i
  induction i with
  | zero => exact fun _ => ⟨rfl, rfl, fun k _ _ _ h => absurd h (by omega), fun _ _ => rfl⟩
  | succ i ih =>
    intro hi
    have hI := ih (by omega)
    obtain ⟨o, v, h3, _, h5⟩ := hA i (by omega)
    obtain ⟨z1, z2⟩ := Act.put_size (A i) o.dst v
    refine ⟨by rw [h5, z2, hI.df], by rw [h5, z1, hI.sz], fun k ok d hk hL hok hdst => ?_, fun t ht => ?_⟩
    · exact (det_far hd hA hk hok hdst (i + 1) hL hi).trans (det_far hd hA hk hok hdst n hk (Nat.le_refl _)).symm
    · rw [h5, Act.put_at _ _ _ _ (ht i o (by omega) (Nat.lt_succ_self i) h3)]
      exact hI.off t (fun k ok hk hL hok => ht k ok hk (by omega) hok)
theorem det_agree {L L' : Nat → Prop} {a a' : Act} (h : DetInv ops n A L a) (h' : DetInv ops n A L' a') {o : Oper} (hs : ∀ cs b, o.op ≠ .select cs b)
    (hl : ∀ k ok d, k < n → ops[k]? = some ok → ok.dst = some d → d ∈ o.looksAt ops → L k ∧ L' k) :
    execOp a.eval o = execOp a'.eval o ∧ Region.wanted o (yielded ops a.tmps) = Region.wanted o (yielded ops a'.tmps) := by
  have key : ∀ t, t ∈ o.looksAt ops → a.tmps[t]? = a'.tmps[t]? := fun t ht => by
    rcases Classical.em (∃ k ok, k < n ∧ ops[k]? = some ok ∧ ok.dst = some t) with ⟨k, ok, hk, hok, hdst⟩ | hno
    · obtain ⟨l1, l2⟩ := hl k ok t hk hok hdst ht
      exact (h.on k ok t hk l1 hok hdst).trans (h'.on k ok t hk l2 hok hdst).symm
    · exact (h.off t (fun k ok hk _ hok hdst => hno ⟨k, ok, hk, hok, hdst⟩)).trans (h'.off t (fun k ok hk _ hok hdst => hno ⟨k, ok, hk, hok, hdst⟩)).symm
  constructor
  · refine execOp_congr o hs fun x hx => ?_
    cases x with
    | tmp t =>
      have := key t (List.mem_append_left _ (List.mem_filterMap.2 ⟨.tmp t, by simpa using hx, rfl⟩))
      simp [Act.eval, this]
    | _ => rfl
  · unfold Region.wanted
    cases hg : o.guard with
    | none => rfl
    | some gw =>
      obtain ⟨g, want⟩ := gw
      have hy : yielded ops a.tmps g = yielded ops a'.tmps g := by
        unfold yielded
        cases ht : (ops[g]?).bind (·.dst) with
        | none => rfl
        | some t =>
          have := key t (by simp [Oper.looksAt, hg, ht])
          simp [this]
      simp only [hy]
theorem settles_op {i : Nat} {o : Oper} {v : Value} {a b : Act} {w : World} {K : Act → World → Prop} (ho : ops[i]? = some o) (hs : Settles P ops S o v b) (hz : a.tmps.size = b.tmps.size)
    (he : execOp a.eval o = execOp b.eval o ∧ Region.wanted o (yielded ops a.tmps) = Region.wanted o (yielded ops b.tmps)) (hS : S w) (hK : ∀ w', S w' → K (a.put o.dst v) w') : wpOp P ops Q i K a w := by
  unfold wpOp
  simp only [ho]
  rcases hs with ⟨hw, h⟩ | ⟨hw, rfl⟩
  · rw [he.2, hw, if_pos rfl]
    refine .inl ?_
    have h := h w hS
    unfold Oper.wp at *
    rw [he.1]
    generalize (execOp b.eval o).run P w = r at *
    cases r with
    | ok nx w' =>
      cases nx <;> simp only [Oper.upon] at h ⊢
      case value u => rw [Act.put_same hz h.1]; exact hK _ h.2
      case skip => rw [Act.put_same hz h.1]; exact hK _ h.2
      case defer d =>
        exfalso
        have h1 := congrArg Act.defers h.1
        rw [(Act.put_size _ _ _).2, (Act.put_size _ _ _).2] at h1
        have h2 := congrArg List.length h1
        simp at h2
      case enter f args =>
        refine Calls.mono h fun e w'' he => ?_
        cases e with
        | returned u => show K (a.put o.dst u) w''; rw [Act.put_same hz he.1]; exact hK _ he.2
        | panicked c => exact False.elim he
        | outgrown => obtain ⟨_, _, h3⟩ := he; exact False.elim h3
      case row row args => exact Rows.mono h fun u w'' he => (by rw [Act.put_same hz he.1]; exact hK _ he.2)
    | halt x w' =>
      cases x <;> simp only [Oper.upon] at h ⊢
      case panic u => exact False.elim h
  · rw [he.2, hw]
    exact hK _ hS
theorem least_mem : ∀ (U : List Nat), U ≠ [] → ∃ i ∈ U, ∀ j ∈ U, i ≤ j
  | [], h => absurd rfl h
  | [x], _ => ⟨x, by simp, fun j hj => by simp at hj; omega⟩
  | x :: y :: r, _ => by
    obtain ⟨i, hi, hm⟩ := least_mem (y :: r) (by simp)
    by_cases h : x ≤ i
    · exact ⟨x, by simp, fun j hj => by
        rcases List.mem_cons.1 hj with rfl | hj
        · exact Nat.le_refl _
        · exact Nat.le_trans h (hm j hj)⟩
    · exact ⟨i, List.mem_cons_of_mem _ hi, fun j hj => by
        rcases List.mem_cons.1 hj with rfl | hj
        · omega
        · exact hm j hj⟩
theorem det_sound (hA : ∀ i, i < n → ∃ o v, ops[i]? = some o ∧ Settles P ops S o v (A i) ∧ A (i + 1) = (A i).put o.dst v)
    (hd : ∀ i k oi ok d, i < n → k < n → ops[i]? = some oi → ops[k]? = some ok → ok.dst = some d → k ≠ i → oi.dst ≠ some d)
    (hl : ∀ i k oi ok d, i < n → k < n → ops[i]? = some oi → ops[k]? = some ok → ok.dst = some d → d ∈ oi.looksAt ops → Region.waitsFor .any ops i k = true)
    (hb : ∀ i oi, i < n → ops[i]? = some oi → ∀ e ∈ oi.after, Region.binds .any e = true → e.on < i)
    (hsel : Region.noSelect ops = true) (hs : Region.sinkB .any ops n = true) (hc : Region.chainB .any ops n = true) (hn : n < ops.size)
    (hfin : ∀ w, S w → wpAny P .any ops Q (ops.size - n) (fullL ops.size n) (A n) w) :
    ∀ (m : Nat) (U : List Nat) (listed : Array Bool) (a : Act) (w : World), U.length = m → HeadInv .any ops n listed → U.Nodup → (∀ i, i ∈ U ↔ i < n ∧ listed.getD i true = false) →
      DetInv ops n A (fun k => listed.getD k true = true) a → S w → wpAny P .any ops Q (m + (ops.size - n)) listed a w := by
  intro m
  induction m with
  | zero =>
    intro U listed a w hm inv hnd hU hI hS
    obtain rfl : U = [] := List.eq_nil_of_length_eq_zero hm
    have hall : ∀ i, i < n → listed.getD i true = true := fun i hi => by
      cases hb : listed.getD i true with
      | true => rfl
      | false => exact absurd ((hU i).2 ⟨hi, hb⟩) (by simp)
    have hlst : listed = fullL ops.size n := by
      apply Array.ext
      · rw [inv.size]; simp [fullL]
      · intro i h1 h2
        have e : (fullL ops.size n)[i] = decide (i < n) := by simp [fullL]
        rw [e]
        by_cases hi : i < n
        · have := hall i hi
          rw [Array.getD_eq_getD_getElem?, Array.getElem?_eq_getElem h1] at this
          rw [decide_eq_true hi]; exact this
        · have := inv.tail i (by omega) (by rw [inv.size] at h1; exact h1)
          rw [Array.getD_eq_getD_getElem?, Array.getElem?_eq_getElem h1] at this
          rw [decide_eq_false hi]; exact this
    have hB := det_base hA hd n (Nat.le_refl _)
    have ha : a = A n := by
      have e1 : a.defers = (A n).defers := hI.df.trans hB.df.symm
      have e2 : a.tmps = (A n).tmps := by
        apply Array.ext_getElem?
        intro t
        rcases Classical.em (∃ k ok, k < n ∧ ops[k]? = some ok ∧ ok.dst = some t) with ⟨k, ok, hk, hok, hdst⟩ | hno
        · exact hI.on k ok t hk (hall k hk) hok hdst
        · exact (hI.off t (fun k ok hk _ hok hdst => hno ⟨k, ok, hk, hok, hdst⟩)).trans (hB.off t (fun k ok hk _ hok hdst => hno ⟨k, ok, hk, hok, hdst⟩)).symm
      revert e1 e2
      generalize A n = b
      intro e1 e2
      cases a; cases b
      simp only at e1 e2
      rw [e1, e2]
    rw [Nat.zero_add, hlst, ha]
    exact hfin w hS
  | succ m ih =>
    intro U listed a w hm inv hnd hU hI hS
    obtain ⟨i0, hi0, hmin⟩ := least_mem U (by intro e; rw [e] at hm; cases hm)
    obtain ⟨hin0, hun0⟩ := (hU i0).1 hi0
    rw [show m + 1 + (ops.size - n) = (m + (ops.size - n)) + 1 by omega]
    have hr0 : i0 ∈ Region.ready .any ops listed := by
      obtain ⟨o, _, ho, _⟩ := hA i0 hin0
      refine mem_ready.2 ⟨hun0, o, ho, fun e he hbd => ?_⟩
      have hlt := hb i0 o hin0 ho e he hbd
      cases hl : listed.getD e.on false with
      | true => rfl
      | false =>
        have h1 : e.on < listed.size := by rw [inv.size]; omega
        have := hmin e.on ((hU _).2 ⟨by omega, getD_in h1 hl⟩)
        omega
    refine ⟨fun e => (by rw [e] at hr0; cases hr0), fun i hi => ?_⟩
    have hin : i < n := by
      rcases Nat.lt_or_ge i n with h1 | h1
      · exact h1
      · exact absurd hi (tail_waits hs hc hn inv _ i0 rfl hin0 hun0 i h1)
    obtain ⟨hun, _⟩ := mem_ready.1 hi
    obtain ⟨o, v, ho, hset, hput⟩ := hA i hin
    have hBi := det_base hA hd i (by omega)
    have hag := det_agree hI hBi (fun cs b => Region.noSelect_spec hsel i o cs b ho) (fun k ok d hk hok hdst hlk => by
      have hw := hl i k o ok d hin hk ho hok hdst hlk
      obtain ⟨o', ho', e, he, hbd, hon⟩ := Region.waitsFor_spec hw
      obtain rfl : o' = o := Option.some.inj (ho'.symm.trans ho)
      refine ⟨?_, by have := hb i o' hin ho e he hbd; omega⟩
      obtain ⟨_, o2, ho2, hall⟩ := mem_ready.1 hi
      obtain rfl : o2 = o' := Option.some.inj (ho2.symm.trans ho)
      have h3 := hall e he hbd
      rw [hon] at h3
      cases h4 : listed.getD k true with
      | true => rfl
      | false => rw [getD_both h4] at h3; cases h3)
    have hszA : a.tmps.size = (A i).tmps.size := hI.sz.trans hBi.sz.symm
    have hiU : i ∈ U := (hU i).2 ⟨hin, hun⟩
    have hsz : i < listed.size := by rw [inv.size]; omega
    have hsetL : ∀ j, (listed.setIfInBounds i true).getD j true = if j = i then true else listed.getD j true := fun j => by
      by_cases e : j = i
      · subst e
        rw [if_pos rfl, Array.getD_eq_getD_getElem?, Array.getElem?_setIfInBounds_self_of_lt hsz]; rfl
      · rw [if_neg e, Array.getD_eq_getD_getElem?, Array.getElem?_setIfInBounds_ne (fun e2 => e e2.symm), Array.getD_eq_getD_getElem?]
    refine settles_op ho hset hszA hag hS (fun w' hS' => ?_)
    refine ih (U.erase i) (listed.setIfInBounds i true) _ w' (by rw [List.length_erase_of_mem hiU]; omega) (inv.set hi hin) (hnd.erase _) (fun j => ?_) ?_ hS'
    · rw [hnd.mem_erase_iff, hU, hsetL]
      by_cases e : j = i
      · simp [e]
      · simp [e]
    · obtain ⟨z1, z2⟩ := Act.put_size a o.dst v
      refine ⟨by rw [z2, hI.df], by rw [z1, hI.sz], fun k ok d hk hL hok hdst => ?_, fun t ht => ?_⟩
      · by_cases e : k = i
        · subst e
          obtain rfl : ok = o := Option.some.inj (hok.symm.trans ho)
          rw [hdst, Act.put_here hszA d v, ← hdst, ← hput]
          exact (det_far hd hA hin hok hdst n hin (Nat.le_refl _)).symm
        · simp only [hsetL, if_neg e] at hL
          rw [Act.put_at _ _ _ _ (hd i k o ok d hin hk ho hok hdst e)]
          exact hI.on k ok d hk hL hok hdst
      · have hne : o.dst ≠ some t := ht i o hin (by simp only [hsetL, if_true]) ho
        rw [Act.put_at _ _ _ _ hne]
        exact hI.off t (fun k ok hk hL hok => ht k ok hk (by simp only [hsetL]; split; rfl; exact hL) hok)
end
theorem regDet_any {l : List Oper} {a : Act} {w : World} (n : Nat) (S : World → Prop) (hB : detB l.toArray n = true)
    (hS : S w) (h : wpDet P l.toArray S (fun a => ∀ w, S w → wpList P l.toArray Q (l.drop n) a w) n 0 a) : wpAny P .any l.toArray Q l.toArray.size (Array.replicate l.toArray.size false) a w := by
  simp only [detB, Bool.and_eq_true, decide_eq_true_eq] at hB
  obtain ⟨⟨⟨⟨⟨hsel, hn⟩, hs⟩, hc⟩, hq⟩, hall⟩ := hB
  obtain ⟨A, hA0, hA, hF⟩ := wpDet_path n 0 a h
  rw [Nat.zero_add] at hF
  have hchk : ∀ i oi, i < n → l.toArray[i]? = some oi → (∀ e ∈ oi.after, Region.binds .any e = true → e.on < i) ∧ ∀ k ok d, k < n → l.toArray[k]? = some ok → ok.dst = some d → (k ≠ i → oi.dst ≠ some d) ∧ (d ∈ oi.looksAt l.toArray → Region.waitsFor .any l.toArray i k = true) := fun i oi hi ho => by
    have h1 := List.all_eq_true.1 hall i (List.mem_range.2 hi)
    rw [ho] at h1
    simp only [Bool.and_eq_true] at h1
    refine ⟨fun e he hb => ?_, fun k ok d hk hok hdst => ?_⟩
    · have h2 := Array.all_eq_true_iff_forall_mem.1 h1.1 e he
      rw [hb] at h2
      simpa using h2
    · have h2 := List.all_eq_true.1 h1.2 k (List.mem_range.2 hk)
      rw [hok] at h2
      simp only [hdst, Bool.and_eq_true] at h2
      refine ⟨fun hne => ?_, fun hm => ?_⟩
      · have h3 := h2.1
        simpa [hne] using h3
      · have h3 := h2.2
        simpa [hm] using h3
  have inv0 : HeadInv .any l.toArray n (Array.replicate l.toArray.size false) :=
    ⟨by simp, fun j oj _ hl => (by rw [getD_replicate_false] at hl; cases hl), fun t _ ht => getD_in (by simpa using ht) (getD_replicate_false _ _)⟩
  have hno : ∀ i, i < n → (Array.replicate l.toArray.size false).getD i true = false := fun i hi => getD_in (by simp at hn ⊢; omega) (getD_replicate_false _ _)
  have := det_sound (P := P) (Q := Q) (S := S) (A := A) (n := n) (ops := l.toArray) (fun i hi => by have := hA i (Nat.zero_le _) (by omega); exact this)
    (fun i k oi ok d hi hk ho hok hdst hne => ((hchk i oi hi ho).2 k ok d hk hok hdst).1 hne) (fun i k oi ok d hi hk ho hok hdst hm => ((hchk i oi hi ho).2 k ok d hk hok hdst).2 hm)
    (fun i oi hi ho => (hchk i oi hi ho).1) hsel hs hc hn (fun w hSw => by
      have h1 := wpAnyG_seq (P := P) (Q := Q) (S := fun _ => True) (md := .any) (fr := []) (l.drop n) n (fullL l.toArray.size n) (A n) w (Nat.le_refl _) (fun j => by simp [List.getElem?_drop]) (by simpa using hq) (hF w hSw)
      have h2 := wpAny_of_G _ _ _ _ h1
      rw [show (l.drop n).length = l.toArray.size - n by simp] at h2
      exact h2)
    n (List.range n) _ (A 0) w (by simp) inv0 List.nodup_range (fun i => by
      rw [List.mem_range]
      exact ⟨fun hi => ⟨hi, hno i hi⟩, fun h => h.1⟩) ⟨rfl, rfl, fun k o d hk hL => (by rw [hno k hk] at hL; cases hL), fun _ _ => rfl⟩ hS
  rw [hA0, show n + (l.toArray.size - n) = l.toArray.size by omega] at this
  exact this
theorem wp_region_det {id : Nat} {a : Act} {w : World} {l : List Oper} (n : Nat) (S : World → Prop) (hm : P.follows .mixedOrders = true) (hB : detB l.toArray n = true)
    (hS : S w.drew) (h : wpDet P l.toArray S (fun a => ∀ w, S w → wpList P l.toArray Q (l.drop n) a w) n 0 a) : (Code.region id l.toArray true).wp P Q a w :=
  wp_region_any hm (regDet_any n S hB hS h)
theorem wpIn_region_det {lb m : Nat} {id : Nat} {a : Act} {w : World} {l : List Oper} (n : Nat) (S : World → Prop) (hm : P.follows .mixedOrders = true) (hB : (detB l.toArray n && noDefer l.toArray) = true)
    (hL : ¬ LetsOut Q) (hS : S w.drew) (h : wpDet P l.toArray S (fun a => ∀ w, S w → wpList P l.toArray Q (l.drop n) a w) n 0 a) : (Code.region id l.toArray true).wpIn (Fence.wide.inRound lb) m P Q a w := by
  rw [Bool.and_eq_true] at hB
  exact wpIn_region_any hm (wpAnyIn_of lb m hB.2 hL _ _ _ _ (regDet_any n S hB.1 hS h))
/-! ### the steps -/
variable {F : Act → Prop}
theorem wpDet_take {m k : Nat} {o : Oper} {v : Value} {a : Act} (ho : ops[k]? = some o) (hw : Region.wanted o (yielded ops a.tmps) = true)
    (hy : ∀ w, S w → (execOp a.eval o).run P w = .ok (.value v) w) (h : wpDet P ops S F m (k + 1) (a.put o.dst v)) : wpDet P ops S F (m + 1) k a :=
  ⟨o, v, ho, .inl ⟨hw, fun w hS => by unfold Oper.wp; rw [hy w hS]; exact ⟨rfl, hS⟩⟩, h⟩
theorem wpDet_skip {m k : Nat} {o : Oper} {a : Act} (ho : ops[k]? = some o) (hw : Region.wanted o (yielded ops a.tmps) = false)
    (h : wpDet P ops S F m (k + 1) (a.put o.dst undef)) : wpDet P ops S F (m + 1) k a :=
  ⟨o, undef, ho, .inr ⟨hw, rfl⟩, h⟩
theorem wpDet_call {m k : Nat} {o : Oper} {v : Value} {a : Act} (ho : ops[k]? = some o) (hw : Region.wanted o (yielded ops a.tmps) = true)
    (hy : ∀ w, S w → ∀ K : Act → World → Prop, (∀ w', S w' → K (a.put o.dst v) w') → o.wp P a w K NoP) (h : wpDet P ops S F m (k + 1) (a.put o.dst v)) : wpDet P ops S F (m + 1) k a :=
  ⟨o, v, ho, .inl ⟨hw, fun w hS => hy w hS _ (fun _ hS' => ⟨rfl, hS'⟩)⟩, h⟩
theorem wpDet_done {k : Nat} {a : Act} (h : F a) : wpDet P ops S F 0 k a := h
end
end Fk

/-! As XDet, where one operation of the head lays a new block (number p) that no other operation of the head looks at, and where the tail need not wait for some operations (fr) that yield their value in whatever world. -/
namespace Fk
open Go Go.RowKit
section
variable {P : Program} {ops : Array Oper} {Q : Exit → Act → World → Prop} {S : World → Prop} {n p dp : Nat} {ob : Obj} {sl : Nat → Value} {fr : List Nat}
section
variable {A : Nat → Act}
end
/-! ### the steps -/
variable {F : Act → Prop}
end
end Fk

set_option linter.unusedSimpArgs false
set_option linter.unusedVariables false
namespace Fk
open Go Go.MapKept
/-! A set of integers as a map to booleans, all true, that the call itself made. -/
def SetI (w : World) (b : Nat) (l : List Int) : Prop :=
  ∃ es clock, w.heap[b]? = some (.map es clock) ∧ es.toList.map (fun e => e.key) = l.map (Value.int .i64) ∧ ∀ e ∈ es.toList, e.val = .bool true
theorem SetI.keep {w w' : World} {b : Nat} {l : List Int} (h : SetI w b l) (hk : w'.heap[b]? = w.heap[b]?) : SetI w' b l := by
  obtain ⟨es, c, h1, h2, h3⟩ := h
  exact ⟨es, c, hk.trans h1, h2, h3⟩
theorem SetI.made (w : World) : SetI (w.alloc (.map #[] 0)) w.heap.size [] := ⟨#[], 0, World.alloc_heap_new w _, rfl, by simp⟩
section
variable {P : Program} {w : World} {b : Nat} {l : List Int} {t k e : TypeId}
theorem key_int (x : Int) : IsKey (.int .i64) (.int .i64 x) := by simp [IsKey]
theorem keys_int {es : Array MapEntry} (h : es.toList.map (fun e => e.key) = l.map (Value.int .i64)) : ∀ x ∈ es.toList, IsKey (.int .i64) x.key := by
  intro x hx
  have : x.key ∈ es.toList.map (fun e => e.key) := List.mem_map.2 ⟨x, hx, rfl⟩
  rw [h] at this
  obtain ⟨y, _, e⟩ := List.mem_map.1 this
  rw [← e]; exact key_int y
theorem SetI.look (ht : P.underlying t = some (.map k e)) (hk : P.underlying k = some (.int .i64)) (hz : ∀ w, (zeroValue e).run P w = .ok (.bool false) w) (h : SetI w b l) (x : Int) :
    (Instr.lookup t (.map (some b)) (.int .i64 x) false).run P w = .ok (.bool (decide (x ∈ l))) w := by
  obtain ⟨es, c, hb, hl, hv⟩ := h
  have hmem : x ∈ l ↔ ∃ y ∈ es.toList, y.key = .int .i64 x := by
    constructor
    · intro hx
      have : Value.int .i64 x ∈ es.toList.map (fun e => e.key) := by rw [hl]; exact List.mem_map.2 ⟨x, hx, rfl⟩
      obtain ⟨y, hy, e⟩ := List.mem_map.1 this
      exact ⟨y, hy, e⟩
    · rintro ⟨y, hy, e⟩
      have : y.key ∈ l.map (Value.int .i64) := by rw [← hl]; exact List.mem_map.2 ⟨y, hy, rfl⟩
      rw [e] at this
      obtain ⟨z, hz, e2⟩ := List.mem_map.1 this
      injection e2 with _ e2
      exact e2 ▸ hz
  rcases findNow_spec (key_int x) es.toList 0 (keys_int hl) with ⟨h1, h2⟩ | ⟨j, y, h1, h2, h3⟩
  · have hd : decide (x ∈ l) = false := by
      rw [decide_eq_false_iff_not, hmem]
      rintro ⟨y, hy, e⟩
      exact h2 y hy e
    rw [hd]
    simp [Instr.lookup, run_underlying ht, run_getObj_map hb, run_checkKey hk (key_int x), run_findKey hk h1, hz, Result.andThen]
  · have hy : y ∈ es.toList := List.mem_of_getElem? h2
    have hd : decide (x ∈ l) = true := decide_eq_true (hmem.2 ⟨y, hy, h3⟩)
    rw [hd]
    simp [Instr.lookup, run_underlying ht, run_getObj_map hb, run_checkKey hk (key_int x), run_findKey hk h1, hv y hy, Result.andThen]
theorem SetI.put (ht : P.underlying t = some (.map k e)) (hk : P.underlying k = some (.int .i64)) (h : SetI w b l) {x : Int} (hx : x ∉ l) :
    ∃ w', (Instr.mapUpdate t (.map (some b)) (.int .i64 x) (.bool true)).run P w = .ok () w' ∧ SetI w' b (l ++ [x]) ∧ w.grownBy w' (some b) := by
  obtain ⟨es, c, hb, hl, hv⟩ := h
  have hno : ∀ y ∈ es.toList, y.key ≠ .int .i64 x := by
    intro y hy e
    have : y.key ∈ l.map (Value.int .i64) := by rw [← hl]; exact List.mem_map.2 ⟨y, hy, rfl⟩
    rw [e] at this
    obtain ⟨z, hz, e2⟩ := List.mem_map.1 this
    injection e2 with _ e2
    exact hx (e2 ▸ hz)
  rcases findNow_spec (key_int x) es.toList 0 (keys_int hl) with ⟨h1, h2⟩ | ⟨j, y, h1, h2, h3⟩
  · refine ⟨{ w with heap := w.heap.setIfInBounds b (.map (es.push { key := .int .i64 x, val := .bool true, born := c }) (c + 1)) }, ?_, ?_, ?_⟩
    · simp [Instr.mapUpdate, run_underlying ht, run_getObj_map hb, run_checkKey hk (key_int x), run_findKey hk h1, run_setObj_map _ hb, Result.andThen]
    · refine ⟨_, _, (heap_set hb).1, ?_, ?_⟩
      · simp [hl]
      · intro y hy
        simp at hy
        rcases hy with hy | rfl
        · exact hv y (by simpa using hy)
        · rfl
    · exact ⟨rfl, rfl, rfl, by simp, fun i _ hi => (heap_set hb).2 i (fun e => hi (by rw [e]))⟩
  · exact absurd h3 (hno y (List.mem_of_getElem? h2))
end
end Fk

/-! The elements are a commutative group of the order Q. -/
namespace Fk

attribute [local irreducible] qq

theorem vld_iff {x : Int} : vld x = true ↔ 1 ≤ x ∧ x < 2147483579 ∧ x.toNat ^ qq % 2147483579 = 1 := by
  constructor
  · intro h
    have h1 := vld_lo h
    have h2 := vld_hi h
    rw [vld_pow h1 h2] at h
    refine ⟨h1, h2, ?_⟩
    unfold pwr at h
    rw [show (1073741789 : Int).toNat = qq from qq_eq.symm] at h
    have := beq_iff_eq.1 h
    omega
  · rintro ⟨h1, h2, h3⟩
    rw [vld_pow h1 h2]
    unfold pwr
    rw [show (1073741789 : Int).toNat = qq from qq_eq.symm, h3]
    rfl

theorem vld_nat {A : Nat} (h3 : A ^ qq % 2147483579 = 1) (h2 : A < 2147483579) : vld (A : Int) = true := by
  refine vld_iff.2 ⟨?_, by omega, by simpa using h3⟩
  rcases Nat.eq_zero_or_pos A with h | h
  · subst h
    rw [Nat.zero_pow (by rw [qq_eq]; omega)] at h3
    omega
  · omega
theorem nat_vld {a : Int} (h : vld a = true) : ∃ A : Nat, a = (A : Int) ∧ 1 ≤ A ∧ A < 2147483579 ∧ A ^ qq % 2147483579 = 1 := by
  obtain ⟨h1, h2, h3⟩ := vld_iff.1 h
  exact ⟨a.toNat, by omega, by omega, by omega, h3⟩

/-- exponents count modulo Q -/
theorem pow_red {A : Nat} (h : A ^ qq % 2147483579 = 1) (m : Nat) : A ^ m % 2147483579 = A ^ (m % 1073741789) % 2147483579 := by
  conv => lhs; rw [← Nat.div_add_mod m 1073741789, ← qq_eq, Nat.pow_add, Nat.pow_mul, Nat.mul_mod, Nat.pow_mod, h, Nat.one_pow]
  rw [← Nat.mul_mod, Nat.one_mul, qq_eq]
theorem mul_vld_nat {A B : Nat} (ha : A ^ qq % 2147483579 = 1) (hb : B ^ qq % 2147483579 = 1) : (A * B % 2147483579) ^ qq % 2147483579 = 1 := by
  rw [← Nat.pow_mod, Nat.mul_pow, Nat.mul_mod, ha, hb]
theorem pow_vld_nat {A : Nat} (ha : A ^ qq % 2147483579 = 1) (m : Nat) : (A ^ m % 2147483579) ^ qq % 2147483579 = 1 := by
  rw [← Nat.pow_mod, Nat.pow_right_comm, Nat.pow_mod, ha, Nat.one_pow]

theorem mulC_nat {A B : Nat} (ha : vld (A : Int) = true) (hb : vld (B : Int) = true) : mulC A B = ((A * B % 2147483579 : Nat) : Int) := by
  simp [mulC, ha, hb]
theorem powC_nat {A : Nat} (ha : vld (A : Int) = true) (n : Int) : powC A n = ((A ^ (n % 1073741789).toNat % 2147483579 : Nat) : Int) := by
  rw [powC, if_pos ha, pwr]; rfl

theorem vld_mul {a b : Int} (ha : vld a = true) (hb : vld b = true) : vld (mulC a b) = true := by
  obtain ⟨A, rfl, _, _, hA⟩ := nat_vld ha
  obtain ⟨B, rfl, _, _, hB⟩ := nat_vld hb
  rw [mulC_nat ha hb]
  exact vld_nat (mul_vld_nat hA hB) (Nat.mod_lt _ (by omega))
theorem vld_powC {a : Int} (ha : vld a = true) (n : Int) : vld (powC a n) = true := by
  obtain ⟨A, rfl, _, _, hA⟩ := nat_vld ha
  rw [powC_nat ha]
  exact vld_nat (pow_vld_nat hA _) (Nat.mod_lt _ (by omega))
theorem mul_assoc' {a b c : Int} (ha : vld a = true) (hb : vld b = true) (hc : vld c = true) : mulC (mulC a b) c = mulC a (mulC b c) := by
  have hab := vld_mul ha hb
  have hbc := vld_mul hb hc
  obtain ⟨A, rfl, _, _, hA⟩ := nat_vld ha
  obtain ⟨B, rfl, _, _, hB⟩ := nat_vld hb
  obtain ⟨C, rfl, _, _, hC⟩ := nat_vld hc
  rw [mulC_nat ha hb] at hab ⊢
  rw [mulC_nat hb hc] at hbc ⊢
  rw [mulC_nat hab hc, mulC_nat ha hbc]
  congr 1
  rw [Nat.mod_mul_mod, Nat.mul_mod_mod, Nat.mul_assoc]
/-! ### powers -/
theorem toNat_emod (n : Int) : ((n % 1073741789).toNat : Int) = n % 1073741789 := Int.toNat_of_nonneg (by omega)
/-- a power, for any representative of the exponent -/
theorem powC_of {A : Nat} (ha : vld (A : Int) = true) (hA : A ^ qq % 2147483579 = 1) {n : Int} {m : Nat} (h : (m : Int) % 1073741789 = n % 1073741789) : powC A n = ((A ^ m % 2147483579 : Nat) : Int) := by
  rw [powC_nat ha, pow_red hA m]
  have : (n % 1073741789).toNat = m % 1073741789 := by omega
  rw [this]
theorem pow_add' {a : Int} (ha : vld a = true) (i k : Int) : mulC (powC a i) (powC a k) = powC a (i + k) := by
  have h1 := vld_powC ha i
  have h2 := vld_powC ha k
  obtain ⟨A, rfl, _, _, hA⟩ := nat_vld ha
  rw [powC_of ha hA (n := i + k) (m := (i % 1073741789).toNat + (k % 1073741789).toNat) (by omega)]
  rw [powC_nat ha i] at h1 ⊢
  rw [powC_nat ha k] at h2 ⊢
  rw [mulC_nat h1 h2]
  congr 1
  rw [Nat.pow_add, ← Nat.mul_mod]
theorem pow_mul' {a : Int} (ha : vld a = true) (i k : Int) : powC (powC a i) k = powC a (i * k) := by
  have h1 := vld_powC ha i
  obtain ⟨A, rfl, _, _, hA⟩ := nat_vld ha
  rw [powC_of ha hA (n := i * k) (m := (i % 1073741789).toNat * (k % 1073741789).toNat)
    (by rw [Int.natCast_mul, toNat_emod, toNat_emod, ← Int.mul_emod])]
  rw [powC_nat ha i] at h1 ⊢
  rw [powC_nat h1]
  congr 1
  rw [← Nat.pow_mod, Nat.pow_mul]
theorem pow_0 {a : Int} (ha : vld a = true) : powC a 0 = 1 := by
  obtain ⟨A, rfl, _, _, hA⟩ := nat_vld ha
  rw [powC_nat ha]; rfl
theorem pow_1 {a : Int} (ha : vld a = true) : powC a 1 = a := by
  obtain ⟨A, rfl, _, h, hA⟩ := nat_vld ha
  rw [powC_nat ha, show ((1 : Int) % 1073741789).toNat = 1 from rfl, Nat.pow_one, Nat.mod_eq_of_lt h]
/-! ### of x and P - x exactly one is an element -/
theorem neg_pow_odd (a : Int) : ∀ m : Nat, (-a) ^ (2 * m + 1) = -(a ^ (2 * m + 1))
  | 0 => by rw [show 2 * 0 + 1 = 1 from rfl, Int.pow_succ, Int.pow_succ, Int.pow_zero, Int.pow_zero, Int.one_mul, Int.one_mul]
  | m + 1 => by
    have ih := neg_pow_odd a m
    have e : 2 * (m + 1) + 1 = (2 * m + 1) + 1 + 1 := by omega
    rw [e, Int.pow_succ, Int.pow_succ, Int.pow_succ a (2 * m + 1 + 1), Int.pow_succ a (2 * m + 1), ih]
    simp [Int.neg_mul, Int.mul_neg]
theorem euler_P {A : Nat} (h1 : 1 ≤ A) (h2 : A < 2147483579) : A ^ qq % 2147483579 = 1 ∨ A ^ qq % 2147483579 = 2147483578 := by
  have h := euler (p := 2147483579) (a := A) isP_P (by omega) (by rw [Nat.mod_eq_of_lt h2]; omega)
  rw [show (2147483579 : Nat) / 2 = qq from by rw [qq_eq]] at h
  rw [h]
  cases jac A 2147483579
  · right; rfl
  · left; rfl
theorem opp_pow {A : Nat} (h2 : A < 2147483579) : (A ^ qq % 2147483579 + (2147483579 - A) ^ qq % 2147483579) % 2147483579 = 0 := by
  have e : ((2147483579 - A : Nat) : Int) = 2147483579 + -(A : Int) := by omega
  have h1 : (((2147483579 - A) ^ qq : Nat) : Int) % 2147483579 = (-((A ^ qq : Nat) : Int)) % 2147483579 := by
    have ho := neg_pow_odd (A : Int) 536870894
    rw [show 2 * 536870894 + 1 = qq from qq_eq.symm] at ho
    rw [Int.natCast_pow, Int.natCast_pow, ← ho]
    have hc := Z_congr (p := 2147483579) (f := fun _ => ((2147483579 - A : Nat) : Int)) (g := fun _ => -(A : Int)) qq (fun _ _ => by rw [e, Int.add_emod_left])
    rw [Z_const, Z_const] at hc
    exact hc
  generalize A ^ qq = X at *
  generalize (2147483579 - A) ^ qq = Y at *
  omega
theorem vld_opp {x : Int} (h1 : 1 ≤ x) (h2 : x < 2147483579) : vld (2147483579 - x) = !vld x := by
  obtain ⟨A, rfl⟩ : ∃ A : Nat, x = (A : Int) := ⟨x.toNat, by omega⟩
  have e : (2147483579 - (A : Int)) = ((2147483579 - A : Nat) : Int) := by omega
  have h3 := opp_pow (A := A) (by omega)
  have h4 := euler_P (A := A) (by omega) (by omega)
  have h5 := euler_P (A := 2147483579 - A) (by omega) (by omega)
  rcases h4 with h4 | h4
  · have hv : vld (A : Int) = true := vld_nat h4 (by omega)
    rw [hv, e]
    by_cases hc : vld ((2147483579 - A : Nat) : Int) = true
    · obtain ⟨_, _, hc3⟩ := vld_iff.1 hc
      rw [Int.toNat_natCast] at hc3
      omega
    · simpa using hc
  · have hv : vld (A : Int) = false := by
      by_cases hc : vld (A : Int) = true
      · obtain ⟨_, _, hc3⟩ := vld_iff.1 hc
        rw [Int.toNat_natCast] at hc3
        omega
      · simpa using hc
    rw [hv, e]
    refine vld_nat ?_ (by omega)
    omega
/-! ### numbers and elements -/
theorem vld_el {n : Int} (h1 : 1 ≤ n) (h2 : n ≤ 1073741789) : vld (elC n) = true := by
  unfold elC
  rw [if_pos ⟨h1, h2⟩]
  by_cases h : vld n = true
  · rw [if_pos h]; exact h
  · rw [if_neg h, vld_opp h1 (by omega)]; simpa using h
theorem num_el {n : Int} (h1 : 1 ≤ n) (h2 : n ≤ 1073741789) : numC (elC n) = n := by
  have hv := vld_el h1 h2
  unfold numC
  rw [if_pos hv]
  have e : elC n = if vld n then n else 2147483579 - n := by unfold elC; exact if_pos ⟨h1, h2⟩
  rw [e]
  by_cases h : vld n = true
  · simp only [h, if_true]; rw [if_pos h2]
  · simp only [h, Bool.false_eq_true, if_false]; rw [if_neg (by omega)]; omega
end Fk
