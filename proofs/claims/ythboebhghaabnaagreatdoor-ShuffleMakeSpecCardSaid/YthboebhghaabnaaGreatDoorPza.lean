import Derived.StillTail
import Derived.StillTactics
import Derived.OrdersHeld
import Derived.OrdersIn
import Derived.TacticsIn
import Derived.RangeFuncCalls
import Derived.Below
import Derived.Laws.BitsLemmas
import Derived.Laws.Bits64
import Derived.Laws.Bits64b
import Derived.WalkSmall
import Derived.RangeFuncBox
import Derived.Test.YthboebhghaabnaaGreatDoorChecked
import Derived.WalkKit
import Derived.Lib.Hide
import Derived.Deep.LoopGhost
import Derived.Outline
import Derived.IntWalk
/-! A region that draws its order: its head in one given order, under a condition on the world that holds till the head has ended; its tail waits for the head. -/
namespace Fk
open Go
section
variable {P : Program} {ops : Array Oper} {Q : Exit → Act → World → Prop} {md : Region.Mode} {S : World → Prop} {n : Nat}

/-- Which operations of the head hang on the world: those below n that are not listed in fr. -/
def heldB (n : Nat) (fr : List Nat) (i : Nat) : Bool := decide (i < n) && !fr.contains i
def sinkF (md : Region.Mode) (ops : Array Oper) (n : Nat) (fr : List Nat) : Bool :=
  (List.range n).all fun i => fr.contains i || (List.range (n + 1)).any fun j => decide (i < j) && Region.waitsFor md ops j i && !fr.contains j
/-- Every operation that need not wait has come up. -/
def FrDone (n : Nat) (fr : List Nat) (listed : Array Bool) : Prop := ∀ i, i < n → heldB n fr i = false → listed.getD i true = true

theorem tail_waitsF {n : Nat} {fr : List Nat} {listed : Array Bool} (hs : sinkF md ops n fr = true) (hc : Region.chainB md ops n = true) (hn : n < ops.size) (inv : HeadInv md ops n listed) :
    ∀ (d i : Nat), n - i = d → i < n → fr.contains i = false → listed.getD i true = false → ∀ t, n ≤ t → t ∉ Region.ready md ops listed := by
  intro d
  induction d using Nat.strongRecOn with
  | _ d ih =>
    intro i hd hi hfr hun t ht hr
    obtain ⟨_, ot, hot, hall⟩ := mem_ready.1 hr
    have htlt : t < ops.size := (Array.getElem?_eq_some_iff.1 hot).1
    by_cases htn : t = n
    · subst htn
      have h1 := List.all_eq_true.1 hs i (List.mem_range.2 hi)
      rw [hfr, Bool.false_or] at h1
      obtain ⟨j, hj, hj2⟩ := List.any_eq_true.1 h1
      simp only [Bool.and_eq_true, decide_eq_true_eq, Bool.not_eq_true'] at hj2
      obtain ⟨oj, hoj, e, he, hb, hon⟩ := Region.waitsFor_spec hj2.1.2
      have hjle : j ≤ t := by have := List.mem_range.1 hj; omega
      by_cases hjt : j = t
      · subst hjt
        have : oj = ot := Option.some.inj (hoj.symm.trans hot)
        subst this
        have h2 := hall e he hb
        rw [hon, getD_both hun] at h2
        cases h2
      · cases hl : listed.getD j false with
        | true =>
          have h2 := inv.closed j oj hoj hl e he hb
          rw [hon, getD_both hun] at h2
          cases h2
        | false =>
          have hjs : j < listed.size := by rw [inv.size]; omega
          exact ih (t - j) (by omega) j rfl (by omega) hj2.2 (getD_in hjs hl) t (Nat.le_refl _) hr
    · have h1 := List.all_eq_true.1 hc t (List.mem_range.2 htlt)
      simp only [Bool.or_eq_true, decide_eq_true_eq] at h1
      rcases h1 with h1 | h1
      · omega
      · obtain ⟨o', ho', e, he, hb, hon⟩ := Region.waitsFor_spec h1
        have : o' = ot := Option.some.inj (ho'.symm.trans hot)
        subst this
        have h2 := hall e he hb
        rw [hon, getD_both (inv.tail (t - 1) (by omega) (by omega))] at h2
        cases h2

/-- Whatever order is picked from here on, and S holds behind every operation of the head that hangs on the world. -/
def wpAnyG (P : Program) (md : Region.Mode) (ops : Array Oper) (Q : Exit → Act → World → Prop) (S : World → Prop) (n : Nat) (fr : List Nat) : Nat → Array Bool → Act → World → Prop
  | 0, listed, a, w => Region.ready md ops listed = [] ∧ Q .normal a w
  | fuel + 1, listed, a, w =>
    (Region.ready md ops listed = [] → Q .normal a w) ∧
    ∀ i ∈ Region.ready md ops listed, wpOp P ops Q i (fun a' w' => (heldB n fr i = true → S w') ∧ wpAnyG P md ops Q S n fr fuel (listed.setIfInBounds i true) a' w') a w
theorem wpAny_of_G {fr : List Nat} : ∀ (fuel : Nat) (listed : Array Bool) (a : Act) (w : World), wpAnyG P md ops Q S n fr fuel listed a w → wpAny P md ops Q fuel listed a w
  | 0, _, _, _, h => h
  | fuel + 1, _, _, _, h => ⟨h.1, fun i hi => wpOp_mono (fun _ _ h' => wpAny_of_G fuel _ _ _ h'.2) (h.2 i hi)⟩

theorem wpAnyG_first {fr : List Nat} {i : Nat} {oi : Oper} {v : Value} (hi : ops[i]? = some oi) (hsel : ∀ (j : Nat) (o : Oper) cs b, ops[j]? = some o → o.op ≠ .select cs b)
    (hs : sinkF md ops n fr = true) (hc : Region.chainB md ops n = true) (hn : n < ops.size) (hin : i < n) (hfi : fr.contains i = false)
    (hQ : ∀ c a w, Q (.panic c) (a.put oi.dst v) w → Q (.panic c) a w) :
    ∀ (fuel : Nat) (listed : Array Bool) (a : Act) (w : World), HeadInv md ops n listed → FrDone n fr listed →
      (∀ j oj, ops[j]? = some oj → j ≠ i → listed.getD j true = false → (∀ e ∈ oj.after, Region.binds md e = true → e.on ≠ i) → oi.apart ops oj = true) →
      i ∈ Region.ready md ops listed → YieldsIf P ops S oi v a → S w →
      wpAnyG P md ops Q S n fr fuel (listed.setIfInBounds i true) (a.put oi.dst v) w → wpAnyG P md ops Q S n fr (fuel + 1) listed a w := by
  intro fuel
  induction fuel with
  | zero =>
    intro listed a w _ _ _ hr hy hS H
    refine ⟨fun h => (by rw [h] at hr; cases hr), fun j hj => ?_⟩
    by_cases hji : j = i
    · subst hji; exact hy.wpOp hi hS ⟨fun _ => hS, H⟩
    · have := ready_mono hj hji
      rw [H.1] at this
      cases this
  | succ fuel ih =>
    intro listed a w inv hfd hfree hr hy hS H
    have hun := (mem_ready.1 hr).1
    refine ⟨fun h => (by rw [h] at hr; cases hr), fun j hj => ?_⟩
    have hjn : j < n := by
      rcases Nat.lt_or_ge j n with h | h
      · exact h
      · exact absurd hj (tail_waitsF hs hc hn inv _ i rfl hin hfi hun j h)
    by_cases hji : j = i
    · subst hji; exact hy.wpOp hi hS ⟨fun _ => hS, H⟩
    · have h1 := H.2 j (ready_mono hj hji)
      obtain ⟨hjun, oj, hoj, hall⟩ := mem_ready.1 hj
      have hjh : heldB n fr j = true := by
        cases hb : heldB n fr j with
        | true => rfl
        | false => have := hfd j hjn hb; rw [hjun] at this; cases this
      have hnot : ∀ e ∈ oj.after, Region.binds md e = true → e.on ≠ i := fun e he hb heq => by
        have h1 := hall e he hb
        rw [heq, getD_both hun] at h1
        cases h1
      have h2 := wpOp_putIf hoj (hfree j oj hoj hji hjun hnot) (fun cs b => hsel i oi cs b hi) (fun cs b => hsel j oj cs b hoj) hQ hy h1
      have hfree' : ∀ k ok, ops[k]? = some ok → k ≠ i → (listed.setIfInBounds j true).getD k true = false →
          (∀ e ∈ ok.after, Region.binds md e = true → e.on ≠ i) → oi.apart ops ok = true := fun k ok hk hki hun hno => by
        refine hfree k ok hk hki ?_ hno
        by_cases hjk : j = k
        · subst hjk; exact hjun
        · rw [getD_set_ne true hjk] at hun; exact hun
      have hfd' : FrDone n fr (listed.setIfInBounds j true) := fun k hk hb => by
        by_cases hjk : j = k
        · subst hjk; rw [hjh] at hb; cases hb
        · rw [getD_set_ne true hjk]; exact hfd k hk hb
      refine wpOp_mono (fun a' w' h3 => ⟨h3.2.1, ih (listed.setIfInBounds j true) a' w' (inv.set hj hjn) hfd' hfree' (ready_mono hr (Ne.symm hji)) h3.1 (h3.2.1 hjh) ?_⟩) h2
      rw [Array.setIfInBounds_comm _ _ hji]
      exact h3.2.2

/-- What yields its value in whatever world may be taken first, though the tail does not wait for it. -/
theorem wpAnyG_free {fr : List Nat} {i : Nat} {oi : Oper} {v : Value} (hi : ops[i]? = some oi) (hsel : ∀ (j : Nat) (o : Oper) cs b, ops[j]? = some o → o.op ≠ .select cs b)
    (hfi : heldB n fr i = false) (hQ : ∀ c a w, Q (.panic c) (a.put oi.dst v) w → Q (.panic c) a w) :
    ∀ (fuel : Nat) (listed : Array Bool) (a : Act) (w : World),
      (∀ j oj, ops[j]? = some oj → j ≠ i → listed.getD j true = false → (∀ e ∈ oj.after, Region.binds md e = true → e.on ≠ i) → oi.apart ops oj = true) →
      i ∈ Region.ready md ops listed → YieldsIf P ops (fun _ => True) oi v a →
      wpAnyG P md ops Q S n fr fuel (listed.setIfInBounds i true) (a.put oi.dst v) w → wpAnyG P md ops Q S n fr (fuel + 1) listed a w := by
  intro fuel
  induction fuel with
  | zero =>
    intro listed a w _ hr hy H
    refine ⟨fun h => (by rw [h] at hr; cases hr), fun j hj => ?_⟩
    by_cases hji : j = i
    · subst hji; exact hy.wpOp hi trivial ⟨fun h => (by rw [hfi] at h; cases h), H⟩
    · have := ready_mono hj hji
      rw [H.1] at this
      cases this
  | succ fuel ih =>
    intro listed a w hfree hr hy H
    have hun := (mem_ready.1 hr).1
    refine ⟨fun h => (by rw [h] at hr; cases hr), fun j hj => ?_⟩
    by_cases hji : j = i
    · subst hji; exact hy.wpOp hi trivial ⟨fun h => (by rw [hfi] at h; cases h), H⟩
    · have h1 := H.2 j (ready_mono hj hji)
      obtain ⟨hjun, oj, hoj, hall⟩ := mem_ready.1 hj
      have hnot : ∀ e ∈ oj.after, Region.binds md e = true → e.on ≠ i := fun e he hb heq => by
        have h1 := hall e he hb
        rw [heq, getD_both hun] at h1
        cases h1
      have h2 := wpOp_putIf hoj (hfree j oj hoj hji hjun hnot) (fun cs b => hsel i oi cs b hi) (fun cs b => hsel j oj cs b hoj) hQ hy h1
      have hfree' : ∀ k ok, ops[k]? = some ok → k ≠ i → (listed.setIfInBounds j true).getD k true = false →
          (∀ e ∈ ok.after, Region.binds md e = true → e.on ≠ i) → oi.apart ops ok = true := fun k ok hk hki hun hno => by
        refine hfree k ok hk hki ?_ hno
        by_cases hjk : j = k
        · subst hjk; exact hjun
        · rw [getD_set_ne true hjk] at hun; exact hun
      refine wpOp_mono (fun a' w' h3 => ⟨h3.2.1, ih (listed.setIfInBounds j true) a' w' hfree' (ready_mono hr (Ne.symm hji)) h3.1 ?_⟩) h2
      rw [Array.setIfInBounds_comm _ _ hji]
      exact h3.2.2

theorem wpAnyG_seq {fr : List Nat} : ∀ (l : List Oper) (k : Nat) (listed : Array Bool) (a : Act) (w : World), n ≤ k → (∀ j, l[j]? = ops[k + j]?) →
    Region.seqB md ops l.length k listed = true → wpList P ops Q l a w → wpAnyG P md ops Q S n fr l.length listed a w
  | [], _, _, _, _, _, _, hB, h => ⟨by simpa [Region.seqB] using hB, h⟩
  | o :: l, k, listed, a, w, hk, hl, hB, h => by
    have h0 : ops[k]? = some o := by simpa using (hl 0).symm
    simp only [List.length_cons, Region.seqB, Bool.and_eq_true, decide_eq_true_eq] at hB
    refine ⟨fun h1 => (by rw [hB.1] at h1; cases h1), fun i hi => ?_⟩
    rw [hB.1] at hi
    have hik : i = k := by simpa using hi
    subst hik
    have hw : wpOp P ops Q i (wpList P ops Q l) a w := by unfold wpOp; simp only [h0]; exact h
    exact wpOp_mono (fun a' w' h' => ⟨fun hc => (by simp [heldB] at hc; omega), wpAnyG_seq l (i + 1) _ a' w' (by omega) (fun j => by have := hl (j + 1); simpa [Nat.add_assoc, Nat.add_comm 1 j] using this) hB.2 h'⟩) hw

/-- The kinds of a step: 0: yields its value in whatever world; 1: in every world that meets S; 2: alone may come up. -/
def ordB (md : Region.Mode) (ops : Array Oper) (n : Nat) (fr : List Nat) : List (Nat × Nat) → Array Bool → Bool
  | [], listed => Region.seqB md ops (ops.size - n) n listed
  | (0, k) :: r, listed => decide (k < n) && fr.contains k && (Region.ready md ops listed).contains k && Region.free md ops listed k && ordB md ops n fr r (listed.setIfInBounds k true)
  | (1, k) :: r, listed => decide (k < n) && !fr.contains k && ((List.range n).all fun i => heldB n fr i || listed.getD i true) && (Region.ready md ops listed).contains k && Region.free md ops listed k && ordB md ops n fr r (listed.setIfInBounds k true)
  | (_ + 2, k) :: r, listed => decide (k < n) && !fr.contains k && decide (Region.ready md ops listed = [k]) && ordB md ops n fr r (listed.setIfInBounds k true)
/-- The walk along the given order. -/
def wpOrd (P : Program) (ops : Array Oper) (Q : Exit → Act → World → Prop) (S : World → Prop) (tl : List Oper) : List (Nat × Nat) → Act → World → Prop
  | [], a, w => wpList P ops Q tl a w
  | (0, k) :: r, a, w => ∃ o v, ops[k]? = some o ∧ YieldsIf P ops (fun _ => True) o v a ∧ wpOrd P ops Q S tl r (a.put o.dst v) w
  | (1, k) :: r, a, w => ∃ o v, ops[k]? = some o ∧ YieldsIf P ops S o v a ∧ wpOrd P ops Q S tl r (a.put o.dst v) w
  | (_ + 2, k) :: r, a, w => ∃ o, ops[k]? = some o ∧ if Region.wanted o (yielded ops a.tmps) then o.wp P a w (fun a' w' => S w' ∧ wpOrd P ops Q S tl r a' w') Q else wpOrd P ops Q S tl r (a.put o.dst undef) w

theorem ord_sound {fr : List Nat} (hQ : ∀ c a (d : Option Tmp) v w, Q (.panic c) (Act.put a d v) w → Q (.panic c) a w) (hsel : Region.noSelect ops = true) (hs : sinkF md ops n fr = true) (hc : Region.chainB md ops n = true) (hn : n < ops.size)
    (tl : List Oper) (htl : ∀ j, tl[j]? = ops[n + j]?) (hlen : tl.length = ops.size - n) :
    ∀ (ord : List (Nat × Nat)) (listed : Array Bool) (a : Act) (w : World), HeadInv md ops n listed → ordB md ops n fr ord listed = true → S w →
      wpOrd P ops Q S tl ord a w → wpAnyG P md ops Q S n fr (ord.length + (ops.size - n)) listed a w
  | [], listed, a, w, _, hB, _, h => by
    rw [List.length_nil, Nat.zero_add, ← hlen]
    exact wpAnyG_seq tl n listed a w (Nat.le_refl _) htl (by rw [hlen]; exact hB) h
  | (0, k) :: r, listed, a, w, inv, hB, hS, h => by
    obtain ⟨o, v, ho, hy, h⟩ := h
    simp only [ordB, Bool.and_eq_true, decide_eq_true_eq] at hB
    obtain ⟨⟨⟨⟨h1, hf⟩, h2⟩, h3⟩, h4⟩ := hB
    have hr : k ∈ Region.ready md ops listed := by simpa using h2
    rw [List.length_cons, show r.length + 1 + (ops.size - n) = (r.length + (ops.size - n)) + 1 by omega]
    exact wpAnyG_free ho (Region.noSelect_spec hsel) (by unfold heldB; rw [hf]; simp) (fun c a w => hQ c a o.dst v w) _ listed a w (Region.free_spec ho h3) hr hy
      (ord_sound hQ hsel hs hc hn tl htl hlen r _ _ w (inv.set hr h1) h4 hS h)
  | (1, k) :: r, listed, a, w, inv, hB, hS, h => by
    obtain ⟨o, v, ho, hy, h⟩ := h
    simp only [ordB, Bool.and_eq_true, decide_eq_true_eq, Bool.not_eq_true'] at hB
    obtain ⟨⟨⟨⟨⟨h1, hf⟩, hd⟩, h2⟩, h3⟩, h4⟩ := hB
    have hr : k ∈ Region.ready md ops listed := by simpa using h2
    have hfd : FrDone n fr listed := fun i hi hb => by
      have := List.all_eq_true.1 hd i (List.mem_range.2 hi)
      rw [hb, Bool.false_or] at this
      exact this
    rw [List.length_cons, show r.length + 1 + (ops.size - n) = (r.length + (ops.size - n)) + 1 by omega]
    exact wpAnyG_first ho (Region.noSelect_spec hsel) hs hc hn h1 hf (fun c a w => hQ c a o.dst v w) _ listed a w inv hfd (Region.free_spec ho h3) hr hy hS
      (ord_sound hQ hsel hs hc hn tl htl hlen r _ _ w (inv.set hr h1) h4 hS h)
  | (_ + 2, k) :: r, listed, a, w, inv, hB, hS, h => by
    obtain ⟨o, ho, h⟩ := h
    simp only [ordB, Bool.and_eq_true, decide_eq_true_eq, Bool.not_eq_true'] at hB
    obtain ⟨⟨⟨h1, hf⟩, h2⟩, h4⟩ := hB
    have hr : k ∈ Region.ready md ops listed := by rw [h2]; simp
    rw [List.length_cons, show r.length + 1 + (ops.size - n) = (r.length + (ops.size - n)) + 1 by omega]
    refine ⟨fun h0 => (by rw [h0] at hr; cases hr), fun i hi => ?_⟩
    rw [h2] at hi
    obtain rfl : i = k := by simpa using hi
    unfold wpOp
    simp only [ho]
    split
    · rename_i hw
      rw [if_pos hw] at h
      exact .inl (Oper.wp_mono (fun a' w' h' => ⟨fun _ => h'.1, ord_sound hQ hsel hs hc hn tl htl hlen r _ a' w' (inv.set hr h1) h4 h'.1 h'.2⟩) h)
    · rename_i hw
      rw [if_neg hw] at h
      exact ⟨fun _ => hS, ord_sound hQ hsel hs hc hn tl htl hlen r _ _ w (inv.set hr h1) h4 hS h⟩

def frOf (ord : List (Nat × Nat)) : List Nat := (ord.filter fun p => p.1 == 0).map (·.2)
def regB (ops : Array Oper) (n : Nat) (ord : List (Nat × Nat)) : Bool :=
  Region.noSelect ops && decide (n < ops.size) && decide (ord.length = n) && sinkF .any ops n (frOf ord) && Region.chainB .any ops n && ordB .any ops n (frOf ord) ord (Array.replicate ops.size false)

/-- **The law**: the head's n operations in the order 'ord', S all the while; then the tail. -/
theorem wp_region_ord {id : Nat} {a : Act} {w : World} {l : List Oper} (n : Nat) (ord : List (Nat × Nat)) (S : World → Prop) (hm : P.follows .mixedOrders = true) (hB : regB l.toArray n ord = true)
    (hQ : ∀ c a (d : Option Tmp) v w, Q (.panic c) (Act.put a d v) w → Q (.panic c) a w) (hS : S w.drew) (h : wpOrd P l.toArray Q S (l.drop n) ord a w.drew) : (Code.region id l.toArray true).wp P Q a w := by
  simp only [regB, Bool.and_eq_true, decide_eq_true_eq] at hB
  obtain ⟨⟨⟨⟨⟨hsel, hn⟩, hlen⟩, hs⟩, hc⟩, hord⟩ := hB
  have inv0 : HeadInv .any l.toArray n (Array.replicate l.toArray.size false) :=
    ⟨by simp, fun j oj _ hl => (by rw [getD_replicate_false] at hl; cases hl), fun t _ ht => getD_in (by simpa using ht) (getD_replicate_false _ _)⟩
  refine wp_region_any hm (wpAny_of_G (S := S) (n := n) (fr := frOf ord) _ _ _ _ ?_)
  have := ord_sound (P := P) (Q := Q) (S := S) hQ hsel hs hc hn (l.drop n) (fun j => by simp [List.getElem?_drop]) (by simp) ord _ a w.drew inv0 hord hS h
  rw [hlen, show n + (l.toArray.size - n) = l.toArray.size by omega] at this
  exact this

/-! ### the steps of the walk -/
theorem wpOrd_any {tl : List Oper} {k : Nat} {r : List (Nat × Nat)} {o : Oper} {v : Value} {a : Act} {w : World} (ho : ops[k]? = some o) (hw : Region.wanted o (yielded ops a.tmps) = true)
    (hy : ∀ w, (execOp a.eval o).run P w = .ok (.value v) w) (h : wpOrd P ops Q S tl r (a.put o.dst v) w) : wpOrd P ops Q S tl ((0, k) :: r) a w :=
  ⟨o, v, ho, .inl ⟨hw, fun w _ => hy w⟩, h⟩
theorem wpOrd_take {tl : List Oper} {k : Nat} {r : List (Nat × Nat)} {o : Oper} {v : Value} {a : Act} {w : World} (ho : ops[k]? = some o) (hw : Region.wanted o (yielded ops a.tmps) = true)
    (hy : ∀ w, S w → (execOp a.eval o).run P w = .ok (.value v) w) (h : wpOrd P ops Q S tl r (a.put o.dst v) w) : wpOrd P ops Q S tl ((1, k) :: r) a w :=
  ⟨o, v, ho, .inl ⟨hw, hy⟩, h⟩
theorem wpOrd_skip {tl : List Oper} {k : Nat} {r : List (Nat × Nat)} {o : Oper} {a : Act} {w : World} (ho : ops[k]? = some o) (hw : Region.wanted o (yielded ops a.tmps) = false)
    (h : wpOrd P ops Q S tl r (a.put o.dst undef) w) : wpOrd P ops Q S tl ((1, k) :: r) a w :=
  ⟨o, undef, ho, .inr ⟨hw, rfl⟩, h⟩
theorem wpOrd_step {tl : List Oper} {k : Nat} {r : List (Nat × Nat)} {o : Oper} {a : Act} {w : World} (ho : ops[k]? = some o)
    (h : ∀ K : Act → World → Prop, (∀ a w, S w → wpOrd P ops Q S tl r a w → K a w) → Region.wanted o (yielded ops a.tmps) = true ∧ o.wp P a w K Q) : wpOrd P ops Q S tl ((2, k) :: r) a w := by
  obtain ⟨h1, h2⟩ := h (fun a' w' => S w' ∧ wpOrd P ops Q S tl r a' w') (fun _ _ h1 h2 => ⟨h1, h2⟩)
  exact ⟨o, ho, by rw [if_pos h1]; exact h2⟩
theorem wpOrd_nil {tl : List Oper} {a : Act} {w : World} (h : wpList P ops Q tl a w) : wpOrd P ops Q S tl [] a w := h
end
end Fk

/-! wp_region_ord inside a round of a range over a function: what is walked outside holds inside, where no operation defers and nothing is outgrown. -/
namespace Fk
open Go
section
variable {P : Program} {ops : Array Oper} {Q : Exit → Act → World → Prop} {md : Region.Mode} {S : World → Prop}
theorem uponIn_of (lb m : Nat) {o : Oper} {a : Act} {K : Act → World → Prop} {r : Result Next} (h : o.upon P a K Q r) : o.uponIn (Fence.wide.inRound lb) m P a K Q r := by
  cases r with
  | ok nx w' =>
    cases nx with
    | value v => exact h
    | skip => exact h
    | defer d => exact h
    | enter f args => exact ⟨(fun e => by cases e), callsIn_wide.2 h⟩
    | row row args =>
      refine ⟨(fun e => by cases e), fun c cs _ => ?_⟩
      obtain ⟨v, w', r, s⟩ := h c cs
      exact ⟨v, w', r, stepsIn_wide.2 s⟩
    | _ => exact False.elim h
  | halt x w' =>
    cases x with
    | panic v => exact h
    | _ => exact False.elim h
def noDefer (ops : Array Oper) : Bool := ops.toList.all fun o => match o.op with | .defer _ => false | _ => true
theorem noDefer_at (h : noDefer ops = true) {i : Nat} {o : Oper} (ho : ops[i]? = some o) : ∀ c, o.op ≠ .defer c := by
  intro c e
  have := List.all_eq_true.1 h o (by rw [← Array.getElem?_toList] at ho; exact List.mem_of_getElem? ho)
  rw [e] at this
  cases this
theorem wpOpIn_of (lb m : Nat) (hd : noDefer ops = true) (hL : ¬ LetsOut Q) {i : Nat} {K : Act → World → Prop} {a : Act} {w : World} (h : wpOp P ops Q i K a w) : wpOpIn (Fence.wide.inRound lb) m P ops Q i K a w := by
  unfold wpOp at h
  unfold wpOpIn
  cases ho : ops[i]? with
  | none => rw [ho] at h; exact h
  | some o =>
    rw [ho] at h
    simp only at h ⊢
    split
    · rename_i hw
      rw [if_pos hw] at h
      rcases h with h | h
      · refine ⟨fun _ _ => trivial, ?_⟩
        rw [Oper.semAt_eq _ _ _ (noDefer_at hd ho)]
        exact uponIn_of lb m h
      · exact absurd h.2 hL
    · rename_i hw
      rw [if_neg hw] at h
      exact ⟨fun _ _ => trivial, h⟩
theorem wpAnyIn_of (lb m : Nat) (hd : noDefer ops = true) (hL : ¬ LetsOut Q) : ∀ (fuel : Nat) (listed : Array Bool) (a : Act) (w : World), wpAny P md ops Q fuel listed a w → wpAnyIn (Fence.wide.inRound lb) m P md ops Q fuel listed a w
  | 0, _, _, _, h => h
  | fuel + 1, _, _, _, h => ⟨h.1, fun i hi => wpOpIn_of lb m hd hL (wpOp_mono (fun _ _ h' => wpAnyIn_of lb m hd hL fuel _ _ _ h') (h.2 i hi))⟩
theorem wpIn_region_ord {lb m : Nat} {id : Nat} {a : Act} {w : World} {l : List Oper} (n : Nat) (ord : List (Nat × Nat)) (S : World → Prop) (hm : P.follows .mixedOrders = true) (hB : (regB l.toArray n ord && noDefer l.toArray) = true)
    (hL : ¬ LetsOut Q) (hQ : ∀ c a (d : Option Tmp) v w, Q (.panic c) (Act.put a d v) w → Q (.panic c) a w) (hS : S w.drew) (h : wpOrd P l.toArray Q S (l.drop n) ord a w.drew) : (Code.region id l.toArray true).wpIn (Fence.wide.inRound lb) m P Q a w := by
  simp only [regB, Bool.and_eq_true, decide_eq_true_eq] at hB
  obtain ⟨⟨⟨⟨⟨⟨hsel, hn⟩, hlen⟩, hs⟩, hc⟩, hord⟩, hnd⟩ := hB
  have inv0 : HeadInv .any l.toArray n (Array.replicate l.toArray.size false) :=
    ⟨by simp, fun j oj _ hl => (by rw [getD_replicate_false] at hl; cases hl), fun t _ ht => getD_in (by simpa using ht) (getD_replicate_false _ _)⟩
  refine wpIn_region_any hm (wpAnyIn_of lb m hnd hL _ _ _ _ (wpAny_of_G (S := S) (n := n) (fr := frOf ord) _ _ _ _ ?_))
  have := ord_sound (P := P) (Q := Q) (S := S) hQ hsel hs hc hn (l.drop n) (fun j => by simp [List.getElem?_drop]) (by simp) ord _ a w.drew inv0 hord hS h
  rw [hlen, show n + (l.toArray.size - n) = l.toArray.size by omega] at this
  exact this
end
end Fk

/-! A drawn region's head in one given order, where the tail may store to what the head loads: an operation of the head need be apart from those of the head alone, for the tail waits. -/
namespace Fk
open Go
section
variable {P : Program} {ops : Array Oper} {Q : Exit → Act → World → Prop} {md : Region.Mode} {S : World → Prop} {n : Nat}
def freeT (md : Region.Mode) (ops : Array Oper) (n : Nat) (listed : Array Bool) (i : Nat) : Bool :=
  match ops[i]? with
  | none => false
  | some oi => (List.range n).all fun j => j == i || listed.getD j true || match ops[j]? with
      | some oj => oj.after.any (fun e => Region.binds md e && e.on == i) || oi.apart ops oj
      | none => true
theorem freeT_spec {i : Nat} {oi : Oper} {listed : Array Bool} (hi : ops[i]? = some oi) (h : freeT md ops n listed i = true) (j : Nat) (oj : Oper) (hjn : j < n)
    (hj : ops[j]? = some oj) (hne : j ≠ i) (hun : listed.getD j true = false) (hno : ∀ e ∈ oj.after, Region.binds md e = true → e.on ≠ i) :
    oi.apart ops oj = true := by
  simp only [freeT, hi, List.all_eq_true, List.mem_range] at h
  have h1 := h j hjn
  simp only [hj, Bool.or_eq_true, beq_iff_eq, hne, false_or, hun, Bool.false_eq_true] at h1
  rcases h1 with h1 | h1
  · obtain ⟨e, he, hb⟩ := Array.any_eq_true'.1 h1
    simp only [Bool.and_eq_true, beq_iff_eq] at hb
    exact absurd hb.2 (hno e he hb.1)
  · exact h1
theorem wpAnyG_firstT {fr : List Nat} {i : Nat} {oi : Oper} {v : Value} (hi : ops[i]? = some oi) (hsel : ∀ (j : Nat) (o : Oper) cs b, ops[j]? = some o → o.op ≠ .select cs b)
    (hs : sinkF md ops n fr = true) (hc : Region.chainB md ops n = true) (hn : n < ops.size) (hin : i < n) (hfi : fr.contains i = false)
    (hQ : ∀ c a w, Q (.panic c) (a.put oi.dst v) w → Q (.panic c) a w) :
    ∀ (fuel : Nat) (listed : Array Bool) (a : Act) (w : World), HeadInv md ops n listed → FrDone n fr listed →
      (∀ j oj, j < n → ops[j]? = some oj → j ≠ i → listed.getD j true = false → (∀ e ∈ oj.after, Region.binds md e = true → e.on ≠ i) → oi.apart ops oj = true) →
      i ∈ Region.ready md ops listed → YieldsIf P ops S oi v a → S w →
      wpAnyG P md ops Q S n fr fuel (listed.setIfInBounds i true) (a.put oi.dst v) w → wpAnyG P md ops Q S n fr (fuel + 1) listed a w := by
  intro fuel
  induction fuel with
  | zero =>
    intro listed a w _ _ _ hr hy hS H
    refine ⟨fun h => (by rw [h] at hr; cases hr), fun j hj => ?_⟩
    by_cases hji : j = i
    · subst hji; exact hy.wpOp hi hS ⟨fun _ => hS, H⟩
    · have := ready_mono hj hji
      rw [H.1] at this
      cases this
  | succ fuel ih =>
    intro listed a w inv hfd hfree hr hy hS H
    have hun := (mem_ready.1 hr).1
    refine ⟨fun h => (by rw [h] at hr; cases hr), fun j hj => ?_⟩
    have hjn : j < n := by
      rcases Nat.lt_or_ge j n with h | h
      · exact h
      · exact absurd hj (tail_waitsF hs hc hn inv _ i rfl hin hfi hun j h)
    by_cases hji : j = i
    · subst hji; exact hy.wpOp hi hS ⟨fun _ => hS, H⟩
    · have h1 := H.2 j (ready_mono hj hji)
      obtain ⟨hjun, oj, hoj, hall⟩ := mem_ready.1 hj
      have hjh : heldB n fr j = true := by
        cases hb : heldB n fr j with
        | true => rfl
        | false => have := hfd j hjn hb; rw [hjun] at this; cases this
      have hnot : ∀ e ∈ oj.after, Region.binds md e = true → e.on ≠ i := fun e he hb heq => by
        have h1 := hall e he hb
        rw [heq, getD_both hun] at h1
        cases h1
      have h2 := wpOp_putIf hoj (hfree j oj hjn hoj hji hjun hnot) (fun cs b => hsel i oi cs b hi) (fun cs b => hsel j oj cs b hoj) hQ hy h1
      have hfree' : ∀ k ok, k < n → ops[k]? = some ok → k ≠ i → (listed.setIfInBounds j true).getD k true = false →
          (∀ e ∈ ok.after, Region.binds md e = true → e.on ≠ i) → oi.apart ops ok = true := fun k ok hkn hk hki hun hno => by
        refine hfree k ok hkn hk hki ?_ hno
        by_cases hjk : j = k
        · subst hjk; exact hjun
        · rw [getD_set_ne true hjk] at hun; exact hun
      have hfd' : FrDone n fr (listed.setIfInBounds j true) := fun k hk hb => by
        by_cases hjk : j = k
        · subst hjk; rw [hjh] at hb; cases hb
        · rw [getD_set_ne true hjk]; exact hfd k hk hb
      refine wpOp_mono (fun a' w' h3 => ⟨h3.2.1, ih (listed.setIfInBounds j true) a' w' (inv.set hj hjn) hfd' hfree' (ready_mono hr (Ne.symm hji)) h3.1 (h3.2.1 hjh) ?_⟩) h2
      rw [Array.setIfInBounds_comm _ _ hji]
      exact h3.2.2
/-- The kinds of a step: 1: yields its value in every world that meets S; 2: alone may come up. -/
def ordT (md : Region.Mode) (ops : Array Oper) (n : Nat) : List (Nat × Nat) → Array Bool → Bool
  | [], listed => Region.seqB md ops (ops.size - n) n listed
  | (0, _) :: _, _ => false
  | (1, k) :: r, listed => decide (k < n) && (Region.ready md ops listed).contains k && freeT md ops n listed k && ordT md ops n r (listed.setIfInBounds k true)
  | (_ + 2, k) :: r, listed => decide (k < n) && decide (Region.ready md ops listed = [k]) && ordT md ops n r (listed.setIfInBounds k true)
theorem frDone_nil (listed : Array Bool) : FrDone n [] listed := fun i hi hb => by
  exfalso; simp [heldB, hi] at hb
theorem ordT_sound (hQ : ∀ c a (d : Option Tmp) v w, Q (.panic c) (Act.put a d v) w → Q (.panic c) a w) (hsel : Region.noSelect ops = true) (hs : sinkF md ops n [] = true) (hc : Region.chainB md ops n = true) (hn : n < ops.size)
    (tl : List Oper) (htl : ∀ j, tl[j]? = ops[n + j]?) (hlen : tl.length = ops.size - n) :
    ∀ (ord : List (Nat × Nat)) (listed : Array Bool) (a : Act) (w : World), HeadInv md ops n listed → ordT md ops n ord listed = true → S w →
      wpOrd P ops Q S tl ord a w → wpAnyG P md ops Q S n [] (ord.length + (ops.size - n)) listed a w
  | [], listed, a, w, _, hB, _, h => by
    rw [List.length_nil, Nat.zero_add, ← hlen]
    exact wpAnyG_seq tl n listed a w (Nat.le_refl _) htl (by rw [hlen]; exact hB) h
  | (0, k) :: r, listed, a, w, inv, hB, hS, h => by cases hB
  | (1, k) :: r, listed, a, w, inv, hB, hS, h => by
    obtain ⟨o, v, ho, hy, h⟩ := h
    simp only [ordT, Bool.and_eq_true, decide_eq_true_eq] at hB
    obtain ⟨⟨⟨h1, h2⟩, h3⟩, h4⟩ := hB
    have hr : k ∈ Region.ready md ops listed := by simpa using h2
    rw [List.length_cons, show r.length + 1 + (ops.size - n) = (r.length + (ops.size - n)) + 1 by omega]
    exact wpAnyG_firstT ho (Region.noSelect_spec hsel) hs hc hn h1 rfl (fun c a w => hQ c a o.dst v w) _ listed a w inv (frDone_nil _) (freeT_spec ho h3) hr hy hS
      (ordT_sound hQ hsel hs hc hn tl htl hlen r _ _ w (inv.set hr h1) h4 hS h)
  | (_ + 2, k) :: r, listed, a, w, inv, hB, hS, h => by
    obtain ⟨o, ho, h⟩ := h
    simp only [ordT, Bool.and_eq_true, decide_eq_true_eq] at hB
    obtain ⟨⟨h1, h2⟩, h4⟩ := hB
    have hr : k ∈ Region.ready md ops listed := by rw [h2]; simp
    rw [List.length_cons, show r.length + 1 + (ops.size - n) = (r.length + (ops.size - n)) + 1 by omega]
    refine ⟨fun h0 => (by rw [h0] at hr; cases hr), fun i hi => ?_⟩
    rw [h2] at hi
    obtain rfl : i = k := by simpa using hi
    unfold wpOp
    simp only [ho]
    split
    · rename_i hw
      rw [if_pos hw] at h
      exact .inl (Oper.wp_mono (fun a' w' h' => ⟨fun _ => h'.1, ordT_sound hQ hsel hs hc hn tl htl hlen r _ a' w' (inv.set hr h1) h4 h'.1 h'.2⟩) h)
    · rename_i hw
      rw [if_neg hw] at h
      exact ⟨fun _ => hS, ordT_sound hQ hsel hs hc hn tl htl hlen r _ _ w (inv.set hr h1) h4 hS h⟩
def regT (ops : Array Oper) (n : Nat) (ord : List (Nat × Nat)) : Bool :=
  Region.noSelect ops && decide (n < ops.size) && decide (ord.length = n) && sinkF .any ops n [] && Region.chainB .any ops n && ordT .any ops n ord (Array.replicate ops.size false)
theorem regT_any {l : List Oper} {a : Act} {w : World} (n : Nat) (ord : List (Nat × Nat)) (S : World → Prop) (hB : regT l.toArray n ord = true)
    (hQ : ∀ c a (d : Option Tmp) v w, Q (.panic c) (Act.put a d v) w → Q (.panic c) a w) (hS : S w) (h : wpOrd P l.toArray Q S (l.drop n) ord a w) : wpAny P .any l.toArray Q l.toArray.size (Array.replicate l.toArray.size false) a w := by
  simp only [regT, Bool.and_eq_true, decide_eq_true_eq] at hB
  obtain ⟨⟨⟨⟨⟨hsel, hn⟩, hlen⟩, hs⟩, hc⟩, hord⟩ := hB
  have inv0 : HeadInv .any l.toArray n (Array.replicate l.toArray.size false) :=
    ⟨by simp, fun j oj _ hl => (by rw [getD_replicate_false] at hl; cases hl), fun t _ ht => getD_in (by simpa using ht) (getD_replicate_false _ _)⟩
  have := ordT_sound (P := P) (Q := Q) (S := S) hQ hsel hs hc hn (l.drop n) (fun j => by simp [List.getElem?_drop]) (by simp) ord _ a w inv0 hord hS h
  rw [hlen, show n + (l.toArray.size - n) = l.toArray.size by omega] at this
  exact wpAny_of_G _ _ _ _ this
theorem wp_region_ordT {id : Nat} {a : Act} {w : World} {l : List Oper} (n : Nat) (ord : List (Nat × Nat)) (S : World → Prop) (hm : P.follows .mixedOrders = true) (hB : regT l.toArray n ord = true)
    (hQ : ∀ c a (d : Option Tmp) v w, Q (.panic c) (Act.put a d v) w → Q (.panic c) a w) (hS : S w.drew) (h : wpOrd P l.toArray Q S (l.drop n) ord a w.drew) : (Code.region id l.toArray true).wp P Q a w :=
  wp_region_any hm (regT_any n ord S hB hQ hS h)
theorem wpIn_region_ordT {lb m : Nat} {id : Nat} {a : Act} {w : World} {l : List Oper} (n : Nat) (ord : List (Nat × Nat)) (S : World → Prop) (hm : P.follows .mixedOrders = true) (hB : (regT l.toArray n ord && noDefer l.toArray) = true)
    (hL : ¬ LetsOut Q) (hQ : ∀ c a (d : Option Tmp) v w, Q (.panic c) (Act.put a d v) w → Q (.panic c) a w) (hS : S w.drew) (h : wpOrd P l.toArray Q S (l.drop n) ord a w.drew) : (Code.region id l.toArray true).wpIn (Fence.wide.inRound lb) m P Q a w := by
  rw [Bool.and_eq_true] at hB
  exact wpIn_region_any hm (wpAnyIn_of lb m hB.2 hL _ _ _ _ (regT_any n ord S hB.1 hQ hS h))
end
end Fk

/-! A drawn region whose head may come in more than one order: a tree of orders; the tail waits for the head. -/
namespace Fk
open Go
inductive Tree where
  | done
  | take (k : Nat) (t : Tree)
  | one (k : Nat) (t : Tree)
  | two (i : Nat) (s : Tree) (j : Nat) (t : Tree)
section
variable {P : Program} {ops : Array Oper} {Q : Exit → Act → World → Prop} {md : Region.Mode} {S : World → Prop} {n : Nat}
/-- every path is m steps long -/
def treeB (md : Region.Mode) (ops : Array Oper) (n : Nat) : Nat → Tree → Array Bool → Bool
  | m, .done, listed => decide (m = 0) && Region.seqB md ops (ops.size - n) n listed
  | m + 1, .take k t, listed => decide (k < n) && (Region.ready md ops listed).contains k && freeT md ops n listed k && treeB md ops n m t (listed.setIfInBounds k true)
  | m + 1, .one k t, listed => decide (k < n) && decide (Region.ready md ops listed = [k]) && treeB md ops n m t (listed.setIfInBounds k true)
  | m + 1, .two i s j t, listed => decide (i < n) && decide (j < n) && decide (Region.ready md ops listed = [i, j]) && treeB md ops n m s (listed.setIfInBounds i true) && treeB md ops n m t (listed.setIfInBounds j true)
  | 0, _, _ => false
def wpTree (P : Program) (ops : Array Oper) (Q : Exit → Act → World → Prop) (S : World → Prop) (tl : List Oper) : Tree → Act → World → Prop
  | .done, a, w => wpList P ops Q tl a w
  | .take k t, a, w => ∃ o v, ops[k]? = some o ∧ YieldsIf P ops S o v a ∧ wpTree P ops Q S tl t (a.put o.dst v) w
  | .one k t, a, w => ∃ o, ops[k]? = some o ∧ if Region.wanted o (yielded ops a.tmps) then o.wp P a w (fun a' w' => S w' ∧ wpTree P ops Q S tl t a' w') Q else wpTree P ops Q S tl t (a.put o.dst undef) w
  | .two i s j t, a, w => (∃ o, ops[i]? = some o ∧ if Region.wanted o (yielded ops a.tmps) then o.wp P a w (fun a' w' => S w' ∧ wpTree P ops Q S tl s a' w') Q else wpTree P ops Q S tl s (a.put o.dst undef) w) ∧
    (∃ o, ops[j]? = some o ∧ if Region.wanted o (yielded ops a.tmps) then o.wp P a w (fun a' w' => S w' ∧ wpTree P ops Q S tl t a' w') Q else wpTree P ops Q S tl t (a.put o.dst undef) w)
theorem tree_op {K : Act → World → Prop} {L : Act → World → Prop} {k : Nat} {a : Act} {w : World} (hS : S w) (h : ∃ o, ops[k]? = some o ∧ if Region.wanted o (yielded ops a.tmps) then o.wp P a w (fun a' w' => S w' ∧ K a' w') Q else K (a.put o.dst undef) w)
    (hK : ∀ a w, S w → K a w → L a w) : wpOp P ops Q k L a w := by
  obtain ⟨o, ho, h⟩ := h
  unfold wpOp
  simp only [ho]
  split
  · rename_i hw
    rw [if_pos hw] at h
    exact .inl (Oper.wp_mono (fun a' w' h' => hK a' w' h'.1 h'.2) h)
  · rename_i hw
    rw [if_neg hw] at h
    exact hK _ _ hS h
theorem tree_sound (hQ : ∀ c a (d : Option Tmp) v w, Q (.panic c) (Act.put a d v) w → Q (.panic c) a w) (hsel : Region.noSelect ops = true) (hs : sinkF md ops n [] = true) (hc : Region.chainB md ops n = true) (hn : n < ops.size)
    (tl : List Oper) (htl : ∀ j, tl[j]? = ops[n + j]?) (hlen : tl.length = ops.size - n) :
    ∀ (t : Tree) (m : Nat) (listed : Array Bool) (a : Act) (w : World), HeadInv md ops n listed → treeB md ops n m t listed = true → S w →
      wpTree P ops Q S tl t a w → wpAnyG P md ops Q S n [] (m + (ops.size - n)) listed a w
  | .done, m, listed, a, w, _, hB, _, h => by
    simp only [treeB, Bool.and_eq_true, decide_eq_true_eq] at hB
    rw [hB.1, Nat.zero_add, ← hlen]
    exact wpAnyG_seq tl n listed a w (Nat.le_refl _) htl (by rw [hlen]; exact hB.2) h
  | .take k t, 0, listed, a, w, inv, hB, hS, h => by cases hB
  | .one k t, 0, listed, a, w, inv, hB, hS, h => by cases hB
  | .two i s j t, 0, listed, a, w, inv, hB, hS, h => by cases hB
  | .take k t, m + 1, listed, a, w, inv, hB, hS, h => by
    obtain ⟨o, v, ho, hy, h⟩ := h
    simp only [treeB, Bool.and_eq_true, decide_eq_true_eq] at hB
    obtain ⟨⟨⟨h1, h2⟩, h3⟩, h4⟩ := hB
    have hr : k ∈ Region.ready md ops listed := by simpa using h2
    rw [show m + 1 + (ops.size - n) = (m + (ops.size - n)) + 1 by omega]
    exact wpAnyG_firstT ho (Region.noSelect_spec hsel) hs hc hn h1 rfl (fun c a w => hQ c a o.dst v w) _ listed a w inv (frDone_nil _) (freeT_spec ho h3) hr hy hS
      (tree_sound hQ hsel hs hc hn tl htl hlen t m _ _ w (inv.set hr h1) h4 hS h)
  | .one k t, m + 1, listed, a, w, inv, hB, hS, h => by
    simp only [treeB, Bool.and_eq_true, decide_eq_true_eq] at hB
    obtain ⟨⟨h1, h2⟩, h4⟩ := hB
    have hr : k ∈ Region.ready md ops listed := by rw [h2]; simp
    rw [show m + 1 + (ops.size - n) = (m + (ops.size - n)) + 1 by omega]
    refine ⟨fun h0 => (by rw [h0] at hr; cases hr), fun i hi => ?_⟩
    rw [h2] at hi
    obtain rfl : i = k := by simpa using hi
    exact tree_op hS h (fun a' w' hS' h' => ⟨fun _ => hS', tree_sound hQ hsel hs hc hn tl htl hlen t m _ a' w' (inv.set hr h1) h4 hS' h'⟩)
  | .two i s j t, m + 1, listed, a, w, inv, hB, hS, h => by
    simp only [treeB, Bool.and_eq_true, decide_eq_true_eq] at hB
    obtain ⟨⟨⟨⟨h1, h1'⟩, h2⟩, h4⟩, h5⟩ := hB
    have hri : i ∈ Region.ready md ops listed := by rw [h2]; simp
    have hrj : j ∈ Region.ready md ops listed := by rw [h2]; simp
    rw [show m + 1 + (ops.size - n) = (m + (ops.size - n)) + 1 by omega]
    refine ⟨fun h0 => (by rw [h0] at hri; cases hri), fun k hk => ?_⟩
    rw [h2] at hk
    simp only [List.mem_cons, List.not_mem_nil, or_false] at hk
    rcases hk with rfl | rfl
    · exact tree_op hS h.1 (fun a' w' hS' h' => ⟨fun _ => hS', tree_sound hQ hsel hs hc hn tl htl hlen s m _ a' w' (inv.set hri h1) h4 hS' h'⟩)
    · exact tree_op hS h.2 (fun a' w' hS' h' => ⟨fun _ => hS', tree_sound hQ hsel hs hc hn tl htl hlen t m _ a' w' (inv.set hrj h1') h5 hS' h'⟩)
def regTree (ops : Array Oper) (n : Nat) (t : Tree) : Bool :=
  Region.noSelect ops && decide (n < ops.size) && sinkF .any ops n [] && Region.chainB .any ops n && treeB .any ops n n t (Array.replicate ops.size false)
theorem regTree_any {l : List Oper} {a : Act} {w : World} (n : Nat) (t : Tree) (S : World → Prop) (hB : regTree l.toArray n t = true)
    (hQ : ∀ c a (d : Option Tmp) v w, Q (.panic c) (Act.put a d v) w → Q (.panic c) a w) (hS : S w) (h : wpTree P l.toArray Q S (l.drop n) t a w) : wpAny P .any l.toArray Q l.toArray.size (Array.replicate l.toArray.size false) a w := by
  simp only [regTree, Bool.and_eq_true, decide_eq_true_eq] at hB
  obtain ⟨⟨⟨⟨hsel, hn⟩, hs⟩, hc⟩, hord⟩ := hB
  have inv0 : HeadInv .any l.toArray n (Array.replicate l.toArray.size false) :=
    ⟨by simp, fun j oj _ hl => (by rw [getD_replicate_false] at hl; cases hl), fun t _ ht => getD_in (by simpa using ht) (getD_replicate_false _ _)⟩
  have := tree_sound (P := P) (Q := Q) (S := S) hQ hsel hs hc hn (l.drop n) (fun j => by simp [List.getElem?_drop]) (by simp) t n _ a w inv0 hord hS h
  rw [show n + (l.toArray.size - n) = l.toArray.size by omega] at this
  exact wpAny_of_G _ _ _ _ this
theorem wp_region_tree {id : Nat} {a : Act} {w : World} {l : List Oper} (n : Nat) (t : Tree) (S : World → Prop) (hm : P.follows .mixedOrders = true) (hB : regTree l.toArray n t = true)
    (hQ : ∀ c a (d : Option Tmp) v w, Q (.panic c) (Act.put a d v) w → Q (.panic c) a w) (hS : S w.drew) (h : wpTree P l.toArray Q S (l.drop n) t a w.drew) : (Code.region id l.toArray true).wp P Q a w :=
  wp_region_any hm (regTree_any n t S hB hQ hS h)
theorem wpIn_region_tree {lb m : Nat} {id : Nat} {a : Act} {w : World} {l : List Oper} (n : Nat) (t : Tree) (S : World → Prop) (hm : P.follows .mixedOrders = true) (hB : (regTree l.toArray n t && noDefer l.toArray) = true)
    (hL : ¬ LetsOut Q) (hQ : ∀ c a (d : Option Tmp) v w, Q (.panic c) (Act.put a d v) w → Q (.panic c) a w) (hS : S w.drew) (h : wpTree P l.toArray Q S (l.drop n) t a w.drew) : (Code.region id l.toArray true).wpIn (Fence.wide.inRound lb) m P Q a w := by
  rw [Bool.and_eq_true] at hB
  exact wpIn_region_any hm (wpAnyIn_of lb m hB.2 hL _ _ _ _ (regTree_any n t S hB.1 hQ hS h))
/-! ### the steps -/
variable {tl : List Oper}
theorem wpTree_take {k : Nat} {t : Tree} {o : Oper} {v : Value} {a : Act} {w : World} (ho : ops[k]? = some o) (hw : Region.wanted o (yielded ops a.tmps) = true)
    (hy : ∀ w, S w → (execOp a.eval o).run P w = .ok (.value v) w) (h : wpTree P ops Q S tl t (a.put o.dst v) w) : wpTree P ops Q S tl (.take k t) a w :=
  ⟨o, v, ho, .inl ⟨hw, hy⟩, h⟩
theorem wpTree_skip {k : Nat} {t : Tree} {o : Oper} {a : Act} {w : World} (ho : ops[k]? = some o) (hw : Region.wanted o (yielded ops a.tmps) = false)
    (h : wpTree P ops Q S tl t (a.put o.dst undef) w) : wpTree P ops Q S tl (.take k t) a w :=
  ⟨o, undef, ho, .inr ⟨hw, rfl⟩, h⟩
theorem wpTree_one {k : Nat} {t : Tree} {o : Oper} {a : Act} {w : World} (ho : ops[k]? = some o)
    (h : ∀ K : Act → World → Prop, (∀ a w, S w → wpTree P ops Q S tl t a w → K a w) → Region.wanted o (yielded ops a.tmps) = true ∧ o.wp P a w K Q) : wpTree P ops Q S tl (.one k t) a w := by
  obtain ⟨h1, h2⟩ := h (fun a' w' => S w' ∧ wpTree P ops Q S tl t a' w') (fun _ _ h1 h2 => ⟨h1, h2⟩)
  exact ⟨o, ho, by rw [if_pos h1]; exact h2⟩
theorem wpTree_two {i j : Nat} {s t : Tree} {oi oj : Oper} {a : Act} {w : World} (hoi : ops[i]? = some oi) (hoj : ops[j]? = some oj)
    (h1 : ∀ K : Act → World → Prop, (∀ a w, S w → wpTree P ops Q S tl s a w → K a w) → Region.wanted oi (yielded ops a.tmps) = true ∧ oi.wp P a w K Q)
    (h2 : ∀ K : Act → World → Prop, (∀ a w, S w → wpTree P ops Q S tl t a w → K a w) → Region.wanted oj (yielded ops a.tmps) = true ∧ oj.wp P a w K Q) : wpTree P ops Q S tl (.two i s j t) a w := by
  obtain ⟨g1, g2⟩ := h1 (fun a' w' => S w' ∧ wpTree P ops Q S tl s a' w') (fun _ _ h1 h2 => ⟨h1, h2⟩)
  obtain ⟨g3, g4⟩ := h2 (fun a' w' => S w' ∧ wpTree P ops Q S tl t a' w') (fun _ _ h1 h2 => ⟨h1, h2⟩)
  exact ⟨⟨oi, hoi, by rw [if_pos g1]; exact g2⟩, ⟨oj, hoj, by rw [if_pos g3]; exact g4⟩⟩
theorem wpTree_done {a : Act} {w : World} (h : wpList P ops Q tl a w) : wpTree P ops Q S tl .done a w := h
end
end Fk

/-! A drawn region that begins with operations that each lay a new block, in whatever order: what follows is shown once, for all numbers of the blocks. -/
namespace Fk
open Go Go.RowKit
section
variable {P : Program} {ops : Array Oper} {Q : Exit → Act → World → Prop} {md : Region.Mode} {n : Nat}
def putAll (dst : Nat → Nat) (sl : Nat → Nat → Value) (b : Nat → Nat) : Nat → Act → Act
  | 0, a => a
  | n + 1, a => (putAll dst sl b n a).put (some (dst n)) (sl n (b n))
theorem putAll_size (dst : Nat → Nat) (sl : Nat → Nat → Value) (b : Nat → Nat) : ∀ (n : Nat) (a : Act), (putAll dst sl b n a).tmps.size = a.tmps.size ∧ (putAll dst sl b n a).defers = a.defers
  | 0, _ => ⟨rfl, rfl⟩
  | n + 1, a => by
    obtain ⟨h1, h2⟩ := putAll_size dst sl b n a
    exact ⟨by simp [putAll, Act.put, h1], by simp [putAll, Act.put, h2]⟩
theorem putAll_at (dst : Nat → Nat) (sl : Nat → Nat → Value) (b : Nat → Nat) : ∀ (n : Nat) (a : Act), (∀ i j, i < n → j < n → dst i = dst j → i = j) → (∀ i, i < n → dst i < a.tmps.size) →
    (∀ i, i < n → (putAll dst sl b n a).tmps[dst i]? = some (sl i (b i))) ∧ ∀ j, (∀ i, i < n → dst i ≠ j) → (putAll dst sl b n a).tmps[j]? = a.tmps[j]?
  | 0, a, _, _ => ⟨fun i hi => absurd hi (by omega), fun _ _ => rfl⟩
  | n + 1, a, hd, hs => by
    obtain ⟨h1, h2⟩ := putAll_at dst sl b n a (fun i j hi hj => hd i j (by omega) (by omega)) (fun i hi => hs i (by omega))
    have hz := (putAll_size dst sl b n a).1
    refine ⟨fun i hi => ?_, fun j hj => ?_⟩
    · show ((putAll dst sl b n a).tmps.setIfInBounds (dst n) _)[dst i]? = _
      by_cases e : i = n
      · subst e
        rw [Array.getElem?_setIfInBounds_self_of_lt (by rw [hz]; exact hs i (by omega))]
      · rw [Array.getElem?_setIfInBounds_ne (fun e2 => e (hd i n hi (by omega) e2.symm))]
        exact h1 i (by omega)
    · show ((putAll dst sl b n a).tmps.setIfInBounds (dst n) _)[j]? = _
      rw [Array.getElem?_setIfInBounds_ne (hj n (by omega))]
      exact h2 j (fun i hi => hj i (by omega))
structure LaysInv (n : Nat) (ob : Nat → Obj) (dst : Nat → Nat) (sl : Nat → Nat → Value) (a0 : Act) (w0 : World) (listed : Array Bool) (b : Nat → Nat) (a : Act) (w : World) : Prop where
  df : a.defers = a0.defers
  sz : a.tmps.size = a0.tmps.size
  on : ∀ i, i < n → listed.getD i true = true → a.tmps[dst i]? = some (sl i (b i)) ∧ w.heap[b i]? = some (ob i) ∧ w0.heap.size ≤ b i
  off : ∀ j, (∀ i, i < n → listed.getD i true = true → dst i ≠ j) → a.tmps[j]? = a0.tmps[j]?
  ne : ∀ i j, i < n → j < n → listed.getD i true = true → listed.getD j true = true → b i = b j → i = j
  be : Below w0.heap.size w0 w
def fullL (s n : Nat) : Array Bool := (Array.range s).map fun i => decide (i < n)
def laysB (ops : Array Oper) (n : Nat) : Bool :=
  Region.noSelect ops && decide (n < ops.size) && sinkF .any ops n [] && Region.chainB .any ops n && Region.seqB .any ops (ops.size - n) n (fullL ops.size n) &&
  (List.range n).all fun i => match ops[i]? with | some o => o.after.all fun e => !Region.binds .any e | none => false
theorem lays_sound {ob : Nat → Obj} {dst : Nat → Nat} {sl : Nat → Nat → Value} {a0 : Act} {w0 : World} (hs : sinkF .any ops n [] = true) (hc : Region.chainB .any ops n = true) (hn : n < ops.size) (hq : Region.seqB .any ops (ops.size - n) n (fullL ops.size n) = true)
    (hfree : ∀ i, i < n → ∀ o, ops[i]? = some o → ∀ e ∈ o.after, Region.binds .any e = false)
    (hop : ∀ i, i < n → ∃ o, ops[i]? = some o ∧ o.guard = none ∧ o.dst = some (dst i) ∧ ∀ (a : Act) (w : World), (execOp a.eval o).run P w = .ok (.value (sl i w.heap.size)) (w.alloc (ob i)))
    (hd : ∀ i j, i < n → j < n → dst i = dst j → i = j) (hlt : ∀ i, i < n → dst i < a0.tmps.size)
    (tl : List Oper) (htl : ∀ j, tl[j]? = ops[n + j]?) (hlen : tl.length = ops.size - n)
    (h : ∀ (b : Nat → Nat) (W : World), (∀ i, i < n → W.heap[b i]? = some (ob i) ∧ w0.heap.size ≤ b i) → (∀ i j, i < n → j < n → b i = b j → i = j) → Below w0.heap.size w0 W → wpList P ops Q tl (putAll dst sl b n a0) W) :
    ∀ (U : List Nat) (listed : Array Bool) (a : Act) (w : World) (b : Nat → Nat), HeadInv .any ops n listed → U.Nodup → (∀ i, i ∈ U ↔ i < n ∧ listed.getD i true = false) → LaysInv n ob dst sl a0 w0 listed b a w →
      wpAnyG P .any ops Q (fun _ => True) n [] (U.length + (ops.size - n)) listed a w := by
  intro U
  generalize hm : U.length = m
  induction m generalizing U with
  | zero =>
    intro listed a w b inv hnd hU hI
    obtain rfl : U = [] := List.eq_nil_of_length_eq_zero hm
    have hall : ∀ i, i < n → listed.getD i true = true := fun i hi => by
      cases hb : listed.getD i true with
      | true => rfl
      | false => exact absurd ((hU i).2 ⟨hi, hb⟩) (by simp)
    have hl : listed = fullL ops.size n := by
      apply Array.ext
      · rw [inv.size]; simp [fullL]
      · intro i h1 h2
        have e : (fullL ops.size n)[i] = decide (i < n) := by simp [fullL]
        rw [e]
        by_cases hi : i < n
        · have := hall i hi
          rw [Array.getD_eq_getD_getElem?, Array.getElem?_eq_getElem h1] at this
          rw [decide_eq_true hi]; exact this
        · have := inv.tail i (by omega) (by rw [inv.size] at h1; exact h1)
          rw [Array.getD_eq_getD_getElem?, Array.getElem?_eq_getElem h1] at this
          rw [decide_eq_false hi]; exact this
    obtain ⟨p1, p2⟩ := putAll_at dst sl b n a0 hd hlt
    obtain ⟨p3, p4⟩ := putAll_size dst sl b n a0
    have ha : a = putAll dst sl b n a0 := by
      obtain ⟨tm, df⟩ := a
      have e1 : df = (putAll dst sl b n a0).defers := hI.df.trans p4.symm
      have e2 : tm = (putAll dst sl b n a0).tmps := by
        apply Array.ext_getElem?
        intro j
        rcases Classical.em (∃ i, i < n ∧ dst i = j) with ⟨i, hi, rfl⟩ | hno
        · rw [p1 i hi]; exact (hI.on i hi (hall i hi)).1
        · rw [p2 j (fun i hi e => hno ⟨i, hi, e⟩)]; exact hI.off j (fun i hi _ e => hno ⟨i, hi, e⟩)
      rw [e1, e2]
    rw [Nat.zero_add, ← hlen]
    have := wpAnyG_seq (P := P) (Q := Q) (S := fun _ => True) (fr := []) tl n listed a w (Nat.le_refl _) htl (by rw [hlen, hl]; exact hq) (by
      rw [ha]
      exact h b w (fun i hi => ⟨(hI.on i hi (hall i hi)).2.1, (hI.on i hi (hall i hi)).2.2⟩) (fun i j hi hj => hI.ne i j hi hj (hall i hi) (hall j hj)) hI.be)
    exact this
  | succ m ih =>
    intro listed a w b inv hnd hU hI
    obtain ⟨i0, hi0⟩ : ∃ i, i ∈ U := List.exists_mem_of_length_pos (by omega)
    obtain ⟨hin0, hun0⟩ := (hU i0).1 hi0
    rw [show m + 1 + (ops.size - n) = (m + (ops.size - n)) + 1 by omega]
    have hr0 : i0 ∈ Region.ready .any ops listed := by
      obtain ⟨o, ho, _⟩ := hop i0 hin0
      refine mem_ready.2 ⟨hun0, o, ho, fun e he hb => ?_⟩
      rw [hfree i0 hin0 o ho e he] at hb
      cases hb
    refine ⟨fun e => (by rw [e] at hr0; cases hr0), fun i hi => ?_⟩
    have hin : i < n := by
      rcases Nat.lt_or_ge i n with h1 | h1
      · exact h1
      · exact absurd hi (tail_waitsF hs hc hn inv _ i0 rfl hin0 rfl hun0 i h1)
    have hun := (mem_ready.1 hi).1
    obtain ⟨o, ho, hg, hdst, hrun⟩ := hop i hin
    have hiU : i ∈ U := (hU i).2 ⟨hin, hun⟩
    have hsz : i < listed.size := by rw [inv.size]; omega
    have hset : ∀ j, (listed.setIfInBounds i true).getD j true = if j = i then true else listed.getD j true := fun j => by
      by_cases e : j = i
      · subst e
        rw [if_pos rfl, Array.getD_eq_getD_getElem?, Array.getElem?_setIfInBounds_self_of_lt hsz]; rfl
      · rw [if_neg e, Array.getD_eq_getD_getElem?, Array.getElem?_setIfInBounds_ne (fun e2 => e e2.symm), Array.getD_eq_getD_getElem?]
    unfold wpOp
    simp only [ho]
    rw [if_pos (by simp [Region.wanted, hg])]
    refine .inl ?_
    unfold Oper.wp
    rw [hrun]
    refine ⟨fun _ => trivial, ?_⟩
    rw [hdst]
    refine ih (U.erase i) (by rw [List.length_erase_of_mem hiU]; omega) (listed.setIfInBounds i true) _ _ (fun j => if j = i then w.heap.size else b j) (inv.set hi hin) (hnd.erase _) (fun j => ?_) ?_
    · rw [hnd.mem_erase_iff, hU, hset]
      by_cases e : j = i
      · simp [e]
      · simp [e]
    · have hbe := hI.be.size
      refine ⟨hI.df, by simp [Act.put, hI.sz], fun j hj hl => ?_, fun j hj => ?_, fun j k hj hk hl1 hl2 => ?_, hI.be.alloc hbe _⟩
      · show ((a.tmps.setIfInBounds (dst i) _)[dst j]? = _) ∧ _
        by_cases e : j = i
        · subst e
          rw [Array.getElem?_setIfInBounds_self_of_lt (by rw [hI.sz]; exact hlt j hj)]
          refine ⟨by simp, ?_, ?_⟩
          · simp only [if_true]; exact World.alloc_heap_new w _
          · simp only [if_true]; exact hbe
        · rw [Array.getElem?_setIfInBounds_ne (fun e2 => e (hd j i hj hin e2.symm))]
          rw [hset, if_neg e] at hl
          obtain ⟨h1, h2, h3⟩ := hI.on j hj hl
          simp only [if_neg e]
          exact ⟨h1, (Below.heap_alloc w _ _ (Array.getElem?_eq_some_iff.1 h2).1).trans h2, h3⟩
      · show (a.tmps.setIfInBounds (dst i) _)[j]? = _
        have hne : dst i ≠ j := hj i hin (by rw [hset, if_pos rfl])
        rw [Array.getElem?_setIfInBounds_ne hne]
        exact hI.off j (fun k hk hl => hj k hk (by rw [hset]; split; rfl; exact hl))
      · rw [hset] at hl1 hl2
        by_cases e1 : j = i
        · by_cases e2 : k = i
          · intro _; rw [e1, e2]
          · rw [if_neg e2] at hl2
            have := (Array.getElem?_eq_some_iff.1 (hI.on k hk hl2).2.1).1
            simp only [if_pos e1, if_neg e2]
            omega
        · rw [if_neg e1] at hl1
          by_cases e2 : k = i
          · have := (Array.getElem?_eq_some_iff.1 (hI.on j hj hl1).2.1).1
            simp only [if_neg e1, if_pos e2]
            omega
          · rw [if_neg e2] at hl2
            simp only [if_neg e1, if_neg e2]
            exact hI.ne j k hj hk hl1 hl2
theorem wp_region_lays {id : Nat} {a0 : Act} {w : World} {l : List Oper} (n : Nat) (ob : Nat → Obj) (dst : Nat → Nat) (sl : Nat → Nat → Value) (hm : P.follows .mixedOrders = true) (hB : laysB l.toArray n = true)
    (hop : ∀ i, i < n → ∃ o, l.toArray[i]? = some o ∧ o.guard = none ∧ o.dst = some (dst i) ∧ ∀ (a : Act) (w : World), (execOp a.eval o).run P w = .ok (.value (sl i w.heap.size)) (w.alloc (ob i)))
    (hd : ∀ i j, i < n → j < n → dst i = dst j → i = j) (hlt : ∀ i, i < n → dst i < a0.tmps.size)
    (h : ∀ (b : Nat → Nat) (W : World), (∀ i, i < n → W.heap[b i]? = some (ob i) ∧ w.heap.size ≤ b i) → (∀ i j, i < n → j < n → b i = b j → i = j) → Below w.heap.size w W → wpList P l.toArray Q (l.drop n) (putAll dst sl b n a0) W) :
    (Code.region id l.toArray true).wp P Q a0 w := by
  simp only [laysB, Bool.and_eq_true, decide_eq_true_eq] at hB
  obtain ⟨⟨⟨⟨⟨hsel, hn⟩, hs⟩, hc⟩, hq⟩, hfr⟩ := hB
  have inv0 : HeadInv .any l.toArray n (Array.replicate l.toArray.size false) :=
    ⟨by simp, fun j oj _ hl => (by rw [getD_replicate_false] at hl; cases hl), fun t _ ht => getD_in (by simpa using ht) (getD_replicate_false _ _)⟩
  have hun : ∀ i, i < n → (Array.replicate l.toArray.size false).getD i true = false := fun i hi => getD_in (by simpa using (show i < l.toArray.size by omega)) (getD_replicate_false _ _)
  have hfree : ∀ i, i < n → ∀ o, l.toArray[i]? = some o → ∀ e ∈ o.after, Region.binds .any e = false := fun i hi o ho e he => by
    have := List.all_eq_true.1 hfr i (List.mem_range.2 hi)
    rw [ho] at this
    simp only [Array.all_eq_true'] at this
    have h2 := this e he
    simpa using h2
  have key := lays_sound (P := P) (Q := Q) (a0 := a0) (w0 := w) (ob := ob) (dst := dst) (sl := sl) hs hc hn hq hfree hop hd hlt (l.drop n) (fun j => by simp [List.getElem?_drop]) (by simp) h (List.range n) (Array.replicate l.toArray.size false) a0 w.drew (fun _ => 0) inv0 List.nodup_range (fun i => by
      rw [List.mem_range]
      exact ⟨fun hi => ⟨hi, hun i hi⟩, fun hi => hi.1⟩) ⟨rfl, rfl, fun i hi hl => (by rw [hun i hi] at hl; cases hl), fun _ _ => rfl, fun i j hi _ hl => (by rw [hun i hi] at hl; cases hl), (Below.refl _ _).drew⟩
  rw [List.length_range, show n + (l.toArray.size - n) = l.toArray.size by omega] at key
  exact wp_region_any hm (wpAny_of_G _ _ _ _ key)
end
end Fk

/-! The hash in plain words: 32 bits are a bit vector, a byte a bit vector of 8. -/
namespace Sha
open Go
abbrev W := BitVec 32
abbrev B := BitVec 8
def rr (x : W) (n : Nat) : W := x >>> n ||| x <<< (32 - n)
def rot3 (x : W) (a b c : Nat) : W := rr x a ^^^ rr x b ^^^ rr x c
def s0 (x : W) : W := rr x 7 ^^^ rr x 18 ^^^ x >>> 3
def s1 (y : W) : W := rr y 17 ^^^ rr y 19 ^^^ y >>> 10
def wd (l : List B) : W := l.foldl (fun n c => n <<< 8 ||| c.setWidth 32) 0
structure St where
  a : W
  b : W
  c : W
  d : W
  e : W
  f : W
  g : W
  h : W
def St.list (s : St) : List W := [s.a, s.b, s.c, s.d, s.e, s.f, s.g, s.h]
/-- the words of a block: the first sixteen, then each out of those before it -/
def nextW (l : List W) (t : Nat) : W := l.getD (t - 16) 0 + s0 (l.getD (t - 15) 0) + l.getD (t - 7) 0 + s1 (l.getD (t - 2) 0)
def first16 (blk : List B) : Nat → List W
  | 0 => []
  | k + 1 => first16 blk k ++ [wd ((blk.drop (4 * k)).take 4)]
def sched (blk : List B) : Nat → List W
  | 0 => first16 blk 16
  | k + 1 => sched blk k ++ [nextW (sched blk k) (16 + k)]
def ch (e f g : W) : W := g ^^^ e &&& (f ^^^ g)
def maj (a b c : W) : W := a &&& b ||| c &&& (a ||| b)
def round (s : St) (k w : W) : St :=
  let p := s.h + rot3 s.e 6 11 25 + ch s.e s.f s.g + k + w
  let q := rot3 s.a 2 13 22 + maj s.a s.b s.c
  ⟨p + q, s.a, s.b, s.c, s.d + p, s.e, s.f, s.g⟩
def numbersL : List W := [
    0x428a2f98#32, 0x71374491#32, 0xb5c0fbcf#32, 0xe9b5dba5#32, 0x3956c25b#32, 0x59f111f1#32, 0x923f82a4#32, 0xab1c5ed5#32,
    0xd807aa98#32, 0x12835b01#32, 0x243185be#32, 0x550c7dc3#32, 0x72be5d74#32, 0x80deb1fe#32, 0x9bdc06a7#32, 0xc19bf174#32,
    0xe49b69c1#32, 0xefbe4786#32, 0x0fc19dc6#32, 0x240ca1cc#32, 0x2de92c6f#32, 0x4a7484aa#32, 0x5cb0a9dc#32, 0x76f988da#32,
    0x983e5152#32, 0xa831c66d#32, 0xb00327c8#32, 0xbf597fc7#32, 0xc6e00bf3#32, 0xd5a79147#32, 0x06ca6351#32, 0x14292967#32,
    0x27b70a85#32, 0x2e1b2138#32, 0x4d2c6dfc#32, 0x53380d13#32, 0x650a7354#32, 0x766a0abb#32, 0x81c2c92e#32, 0x92722c85#32,
    0xa2bfe8a1#32, 0xa81a664b#32, 0xc24b8b70#32, 0xc76c51a3#32, 0xd192e819#32, 0xd6990624#32, 0xf40e3585#32, 0x106aa070#32,
    0x19a4c116#32, 0x1e376c08#32, 0x2748774c#32, 0x34b0bcb5#32, 0x391c0cb3#32, 0x4ed8aa4a#32, 0x5b9cca4f#32, 0x682e6ff3#32,
    0x748f82ee#32, 0x78a5636f#32, 0x84c87814#32, 0x8cc70208#32, 0x90befffa#32, 0xa4506ceb#32, 0xbef9a3f7#32, 0xc67178f2#32]
def startS : St := ⟨0x6a09e667#32, 0xbb67ae85#32, 0x3c6ef372#32, 0xa54ff53a#32, 0x510e527f#32, 0x9b05688c#32, 0x1f83d9ab#32, 0x5be0cd19#32⟩
def rounds (s : St) (w : List W) : Nat → St
  | 0 => s
  | k + 1 => round (rounds s w k) (numbersL.getD k 0) (w.getD k 0)
def St.add (s t : St) : St := ⟨s.a + t.a, s.b + t.b, s.c + t.c, s.d + t.d, s.e + t.e, s.f + t.f, s.g + t.g, s.h + t.h⟩
def absorb (s : St) (blk : List B) : St := s.add (rounds s (sched blk 48) 64)
/-- the state behind the first k blocks of 64 bytes -/
def run (s : St) (l : List B) : Nat → St
  | 0 => s
  | k + 1 => absorb (run s l k) ((l.drop (64 * k)).take 64)
/-- a number in n bytes, the most significant one first -/
def be (n : Nat) (x : Nat) : List B := (List.range n).map fun i => BitVec.ofNat 8 (x / 2 ^ (8 * (n - 1 - i)))
def zeros (n : Nat) : Nat := (119 - n % 64) % 64
def padL (l : List B) : List B := l ++ 0x80#8 :: (List.replicate (zeros l.length) 0#8 ++ be 8 (8 * l.length % 2 ^ 64))
def out (s : St) : List B := s.list.flatMap fun x => be 4 x.toNat
def sum (l : List B) : List B := out (run startS (padL l) ((padL l).length / 64))
def tagged (tag l : List B) : List B := sum (sum tag ++ l)

/-! ### sizes -/
theorem be_length (n x : Nat) : (be n x).length = n := by simp [be]
theorem out_length (s : St) : (out s).length = 32 := by simp [out, St.list, be_length]
theorem sum_length (l : List B) : (sum l).length = 32 := out_length _
theorem tagged_length (t l : List B) : (tagged t l).length = 32 := sum_length _
theorem first16_length (blk : List B) (k : Nat) : (first16 blk k).length = k := by
  induction k with
  | zero => rfl
  | succ k ih => simp [first16, ih]
theorem sched_length (blk : List B) (k : Nat) : (sched blk k).length = 16 + k := by
  induction k with
  | zero => simp [sched, first16_length]
  | succ k ih => simp [sched, ih]; omega
theorem padL_length (l : List B) : (padL l).length = l.length + 9 + zeros l.length := by
  simp [padL, be_length]; omega
theorem padL_blocks (l : List B) : (padL l).length = 64 * ((padL l).length / 64) ∧ (padL l).length / 64 = l.length / 64 + (if l.length % 64 ≤ 55 then 1 else 2) := by
  rw [padL_length]; unfold zeros; split <;> omega

/-! ### the other way of typing the same -/
theorem ch_ref (e f g : W) : (e &&& f) ^^^ (~~~e &&& g) = ch e f g := by
  unfold ch
  ext i hi
  simp only [BitVec.getElem_xor, BitVec.getElem_and, BitVec.getElem_not]
  cases e[i] <;> cases f[i] <;> cases g[i] <;> rfl
theorem maj_ref (a b c : W) : (a &&& b) ^^^ (a &&& c) ^^^ (b &&& c) = maj a b c := by
  unfold maj
  ext i hi
  simp only [BitVec.getElem_xor, BitVec.getElem_and, BitVec.getElem_or]
  cases a[i] <;> cases b[i] <;> cases c[i] <;> rfl
theorem wd_four (a b c d : B) : wd [a, b, c, d] = a.setWidth 32 <<< 24 ||| b.setWidth 32 <<< 16 ||| c.setWidth 32 <<< 8 ||| d.setWidth 32 := by
  show (((0#32 <<< 8 ||| a.setWidth 32) <<< 8 ||| b.setWidth 32) <<< 8 ||| c.setWidth 32) <<< 8 ||| d.setWidth 32 = _
  simp only [BitVec.shiftLeft_or_distrib, ← BitVec.shiftLeft_add, BitVec.zero_shiftLeft, BitVec.zero_or]
end Sha

/-! The machine's words on 32 bits, said of bit vectors. -/
namespace Sha
open Go
/-- a word as a number -/
def un (x : W) : Int := (x.toNat : Int)
def u (x : W) : Value := .int .u32 (un x)
/-- a byte as a number -/
def bn (c : B) : Int := (c.toNat : Int)
theorem un_bd (x : W) : 0 ≤ un x ∧ un x < 4294967296 := by unfold un; have := x.isLt; omega
theorem bn_bd (c : B) : 0 ≤ bn c ∧ bn c < 256 := by unfold bn; have := c.isLt; omega
theorem ofInt_nat (x : W) : BitVec.ofInt IntKind.u32.bits (x.toNat : Int) = x := by
  show BitVec.ofInt 32 (x.toNat : Int) = x
  rw [BitVec.ofInt_natCast]; exact BitVec.ofNat_toNat .. |>.trans (by simp)
theorem wrap_nat (x : W) : IntKind.u32.wrap (x.toNat : Int) = x.toNat := by
  rw [IntKind.wrap_u32]; have := x.isLt; omega
theorem xor_u (x y : W) : bits .xor .u32 (x.toNat : Int) (y.toNat : Int) = ((x ^^^ y).toNat : Int) := by
  show IntKind.u32.wrap ((BitVec.ofInt IntKind.u32.bits (x.toNat : Int) ^^^ BitVec.ofInt IntKind.u32.bits (y.toNat : Int)).toNat : Int) = _
  rw [ofInt_nat, ofInt_nat]; exact wrap_nat _
theorem and_u (x y : W) : bits .and .u32 (x.toNat : Int) (y.toNat : Int) = ((x &&& y).toNat : Int) := by
  show IntKind.u32.wrap ((BitVec.ofInt IntKind.u32.bits (x.toNat : Int) &&& BitVec.ofInt IntKind.u32.bits (y.toNat : Int)).toNat : Int) = _
  rw [ofInt_nat, ofInt_nat]; exact wrap_nat _
theorem or_u (x y : W) : bits .or .u32 (x.toNat : Int) (y.toNat : Int) = ((x ||| y).toNat : Int) := by
  show IntKind.u32.wrap ((BitVec.ofInt IntKind.u32.bits (x.toNat : Int) ||| BitVec.ofInt IntKind.u32.bits (y.toNat : Int)).toNat : Int) = _
  rw [ofInt_nat, ofInt_nat]; exact wrap_nat _
theorem add_u (x y : W) : IntKind.u32.wrap ((x.toNat : Int) + y.toNat) = ((x + y).toNat : Int) := by
  rw [IntKind.wrap_u32, BitVec.toNat_add]; omega
theorem not_u (x : W) : bits .xor .u32 4294967295 (x.toNat : Int) = ((~~~x).toNat : Int) := by
  have h := xor_u (4294967295#32) x
  rw [show ((4294967295#32).toNat : Int) = 4294967295 from rfl] at h
  rw [h]
  congr 2
theorem shl_u (x : W) (n : Nat) : IntKind.u32.wrap ((x.toNat : Int) * 2 ^ n) = ((x <<< n).toNat : Int) := by
  rw [IntKind.wrap_u32, BitVec.toNat_shiftLeft, Nat.shiftLeft_eq, Int.natCast_emod, Int.natCast_mul, Int.natCast_pow]
  rfl
theorem shr_u (x : W) (n : Nat) : (x.toNat : Int) / 2 ^ n = ((x >>> n).toNat : Int) := by
  rw [BitVec.toNat_ushiftRight, Nat.shiftRight_eq_div_pow, Int.natCast_ediv, Int.natCast_pow]
  rfl
theorem rr_u (x : W) (n : Nat) : bits .or .u32 (IntKind.u32.wrap ((x.toNat : Int) * 2 ^ (32 - n))) ((x.toNat : Int) / 2 ^ n) = ((rr x n).toNat : Int) := by
  rw [shl_u, shr_u, or_u]
  unfold rr
  rw [BitVec.or_comm]
theorem byte_u (c : B) : ((c.setWidth 32 : W).toNat : Int) = (c.toNat : Int) := by
  rw [BitVec.toNat_setWidth]; have := c.isLt; omega
/-! ### said of the numbers -/
theorem xor_n (x y : W) : bits .xor .u32 (un x) (un y) = un (x ^^^ y) := xor_u x y
theorem and_n (x y : W) : bits .and .u32 (un x) (un y) = un (x &&& y) := and_u x y
theorem or_n (x y : W) : bits .or .u32 (un x) (un y) = un (x ||| y) := or_u x y
theorem add_n (x y : W) : (un x + un y) % 4294967296 = un (x + y) := by rw [← IntKind.wrap_u32]; exact add_u x y
theorem addw_n (x y : W) : IntKind.u32.wrap (un x + un y) = un (x + y) := add_u x y
theorem not_n (x : W) : bits .xor .u32 4294967295 (un x) = un (~~~x) := not_u x
theorem shr_n (x : W) (n : Nat) : un x / (2 : Int) ^ n = un (x >>> n) := shr_u x n
theorem shl_n (x : W) (n : Nat) : un x * (2 : Int) ^ n % 4294967296 = un (x <<< n) := by rw [← IntKind.wrap_u32]; exact shl_u x n
theorem rr_n (x : W) (n : Nat) : bits .or .u32 (IntKind.u32.wrap (un x * (2 : Int) ^ (32 - n))) (un x / (2 : Int) ^ n) = un (rr x n) := rr_u x n
theorem byte_n (c : B) : un (c.setWidth 32) = bn c := byte_u c
end Sha

/-! Slices that read as lists; blocks that are known whole. -/
namespace Fk
open Go Go.RowKit

theorem bcellK {W w1 : World} (hb : Below W.heap.size W w1) : (∀ b o, b < W.heap.size → w1.cell? ⟨b, o, none⟩ = W.cell? ⟨b, o, none⟩) ∧ (∀ b o, b < W.heap.size → w1.frozen? ⟨b, o, none⟩ = W.frozen? ⟨b, o, none⟩) :=
  ⟨fun b o h => hb.cell (p := ⟨b, o, none⟩) h, fun b o h => hb.frozen (p := ⟨b, o, none⟩) h⟩

section
variable {α : Type} [Inhabited α] {m : Nat} {enc : α → List Value}
/-- the cells from offset off of block b on are the elements of l, m cells each -/
def CellsG (m : Nat) (enc : α → List Value) (w : World) (b off : Nat) (l : List α) : Prop :=
  ∀ i, i < l.length → ∀ j, j < m → w.cell? ⟨b, off + i * m + j, none⟩ = some ((enc (l.getD i default)).getD j undef)
/-- a slice value that reads as the list l, whose cells lie below block B0 -/
def SlG (m : Nat) (enc : α → List Value) (w : World) (B0 : Nat) (v : Value) (l : List α) : Prop :=
  l.length ≤ 9223372036854775807 ∧ ∃ (A : Option Addr) (c : Nat), v = .slice A l.length c ∧ (0 < l.length → ∃ b off, A = some ⟨b, off, none⟩ ∧ b < B0 ∧ CellsG m enc w b off l)
theorem CellsG.keep {w w' : World} {b off : Nat} {l : List α} (h : CellsG m enc w b off l) (hk : w'.heap[b]? = w.heap[b]?) : CellsG m enc w' b off l :=
  fun i hi j hj => (World.cell?_of_block (w := w) hk).trans (h i hi j hj)
theorem SlG.keep {w w' : World} {B0 : Nat} {v : Value} {l : List α} (h : SlG m enc w B0 v l) (hk : ∀ b, b < B0 → w'.heap[b]? = w.heap[b]?) : SlG m enc w' B0 v l := by
  obtain ⟨hl, A, c, rfl, h⟩ := h
  refine ⟨hl, A, c, rfl, fun hp => ?_⟩
  obtain ⟨b, off, rfl, hb, hE⟩ := h hp
  exact ⟨b, off, rfl, hb, hE.keep (hk b hb)⟩
theorem SlG.below {w w' : World} {B0 : Nat} {v : Value} {l : List α} (h : SlG m enc w B0 v l) (hb : Below B0 w w') : SlG m enc w' B0 v l := h.keep hb.block
theorem SlG.belowN {w w' : World} {B0 n : Nat} {v : Value} {l : List α} (h : SlG m enc w B0 v l) (hb : Below n w w') (hn : B0 ≤ n) : SlG m enc w' B0 v l := h.below (hb.mono hn)
theorem SlG.mono {w : World} {B0 B1 : Nat} {v : Value} {l : List α} (h : SlG m enc w B0 v l) (hB : B0 ≤ B1) : SlG m enc w B1 v l := by
  obtain ⟨hl, A, c, rfl, h⟩ := h
  refine ⟨hl, A, c, rfl, fun hp => ?_⟩
  obtain ⟨b, off, rfl, hb, hE⟩ := h hp
  exact ⟨b, off, rfl, by omega, hE⟩
theorem SlG.nil_ (w : World) (B0 : Nat) : SlG m enc w B0 (.slice none 0 0) ([] : List α) := ⟨by simp, none, 0, rfl, fun h => absurd h (by simp)⟩
end

/-- integers -/
def encI (n : Int) : List Value := [.int .i64 n]
abbrev SlI (w : World) (B0 : Nat) (v : Value) (l : List Int) : Prop := SlG 1 encI w B0 v l
theorem CellsG.int {w : World} {b off : Nat} {l : List Int} (h : CellsG 1 encI w b off l) {i : Nat} (hi : i < l.length) : w.cell? ⟨b, off + i, none⟩ = some (.int .i64 (l.getD i default)) := by
  have := h i hi 0 (by omega)
  simpa [encI] using this

/-- a block known whole -/
def Row (w : World) (g : Nat) (t : TypeId) (vs : List Value) : Prop := w.heap[g]? = some (.cells vs.toArray t (0, 0))
theorem Row.lt {w : World} {g : Nat} {t : TypeId} {vs : List Value} (h : Row w g t vs) : g < w.heap.size := (Array.getElem?_eq_some_iff.1 h).1
theorem Row.cell {w : World} {g : Nat} {t : TypeId} {vs : List Value} (h : Row w g t vs) (i : Nat) : w.cell? ⟨g, i, none⟩ = vs[i]? := by
  unfold Row at h; simp [World.cell?, h]
theorem Row.frozen {w : World} {g : Nat} {t : TypeId} {vs : List Value} (h : Row w g t vs) (i : Nat) : w.frozen? ⟨g, i, none⟩ = false := by
  unfold Row at h; simp [World.frozen?, h]
theorem Row.new (w : World) (t : TypeId) (vs : List Value) : Row (w.alloc (.cells vs.toArray t)) w.heap.size t vs := World.alloc_heap_new w _
theorem Row.keep {w w' : World} {g : Nat} {t : TypeId} {vs : List Value} (h : Row w g t vs) (hk : w'.heap[g]? = w.heap[g]?) : Row w' g t vs := hk.trans h
theorem Row.alloc {w : World} {g : Nat} {t : TypeId} {vs : List Value} (h : Row w g t vs) (o : Obj) : Row (w.alloc o) g t vs := h.keep (Below.heap_alloc w o g h.lt)
theorem Row.other {w : World} {g : Nat} {t : TypeId} {vs : List Value} (h : Row w g t vs) {p : Addr} (hp : g ≠ p.block) (u : Value) : Row (w.setCell p u) g t vs := h.keep (Below.heap_setCell w p u g hp)
theorem Row.below {w w' : World} {g n : Nat} {t : TypeId} {vs : List Value} (h : Row w g t vs) (hb : Below n w w') (hg : g < n) : Row w' g t vs := h.keep (hb.block g hg)
theorem Row.store {w : World} {g : Nat} {t : TypeId} {vs : List Value} (h : Row w g t vs) (i : Nat) (u : Value) : Row (w.setCell ⟨g, i, none⟩ u) g t (vs.set i u) := by
  unfold Row at h ⊢
  obtain ⟨hlt, hk⟩ := Array.getElem?_eq_some_iff.1 h
  show (w.heap.modify g _)[g]? = _
  rw [Array.getElem?_eq_getElem (by rw [Array.size_modify]; exact hlt), Array.getElem_modify_self, hk]
  simp
/-- a whole block reads as a list -/
theorem Row.sl {α : Type} [Inhabited α] {m : Nat} {enc : α → List Value} {w : World} {g c : Nat} {t : TypeId} {l : List α} (h : Row w g t (l.flatMap enc)) (hm : ∀ a, (enc a).length = m) (hl : l.length ≤ 9223372036854775807) {B0 : Nat} (hB : g < B0) :
    SlG m enc w B0 (.slice (some ⟨g, 0, none⟩) l.length c) l := by
  refine ⟨hl, _, _, rfl, fun _ => ⟨g, 0, rfl, hB, ?_⟩⟩
  have key : ∀ (l : List α) (i j : Nat), i < l.length → j < m → (l.flatMap enc)[i * m + j]? = some ((enc (l.getD i default)).getD j undef) := by
    intro l
    induction l with
    | nil => intro i j hi; simp at hi
    | cons a l ih =>
      intro i j hi hj
      rw [List.flatMap_cons]
      cases i with
      | zero =>
        rw [Nat.zero_mul, Nat.zero_add, List.getElem?_append_left (by rw [hm]; exact hj)]
        simp [hm, hj]
      | succ i =>
        rw [List.getElem?_append_right (by rw [hm, Nat.succ_mul]; omega), hm]
        have e : (i + 1) * m + j - m = i * m + j := by rw [Nat.succ_mul]; omega
        rw [e, ih i j (by simpa using hi) hj]
        simp
  intro i hi j hj
  rw [h.cell, Nat.zero_add, key l i j hi hj]
end Fk

namespace Go.Proofs.YthboebhghaabnaaGreatDoor
open Go.RowKit Fk Sha
/-! The small functions of the hash: turning a word round. -/
theorem ret_u32 {a b : Int} (h : a = b) : Ending.returned (.int .u32 a) = .returned (.int .u32 b) := by rw [h]
theorem rr_lit2 (x : W) : bits .or .u32 (IntKind.u32.wrap (un x * (1073741824 : Int))) (un x / (4 : Int)) = un (rr x 2) := by
  have h := rr_n x 2
  rw [show ((2 : Int) ^ (32 - 2)) = 1073741824 by decide, show ((2 : Int) ^ 2) = 4 by decide] at h
  exact h
theorem shr_lit2 (x : W) : un x / (4 : Int) = un (x >>> 2) := by
  have h := shr_n x 2
  rw [show ((2 : Int) ^ 2) = 4 by decide] at h
  exact h
theorem rr_lit3 (x : W) : bits .or .u32 (IntKind.u32.wrap (un x * (536870912 : Int))) (un x / (8 : Int)) = un (rr x 3) := by
  have h := rr_n x 3
  rw [show ((2 : Int) ^ (32 - 3)) = 536870912 by decide, show ((2 : Int) ^ 3) = 8 by decide] at h
  exact h
theorem shr_lit3 (x : W) : un x / (8 : Int) = un (x >>> 3) := by
  have h := shr_n x 3
  rw [show ((2 : Int) ^ 3) = 8 by decide] at h
  exact h
theorem rr_lit6 (x : W) : bits .or .u32 (IntKind.u32.wrap (un x * (67108864 : Int))) (un x / (64 : Int)) = un (rr x 6) := by
  have h := rr_n x 6
  rw [show ((2 : Int) ^ (32 - 6)) = 67108864 by decide, show ((2 : Int) ^ 6) = 64 by decide] at h
  exact h
theorem shr_lit6 (x : W) : un x / (64 : Int) = un (x >>> 6) := by
  have h := shr_n x 6
  rw [show ((2 : Int) ^ 6) = 64 by decide] at h
  exact h
theorem rr_lit7 (x : W) : bits .or .u32 (IntKind.u32.wrap (un x * (33554432 : Int))) (un x / (128 : Int)) = un (rr x 7) := by
  have h := rr_n x 7
  rw [show ((2 : Int) ^ (32 - 7)) = 33554432 by decide, show ((2 : Int) ^ 7) = 128 by decide] at h
  exact h
theorem shr_lit7 (x : W) : un x / (128 : Int) = un (x >>> 7) := by
  have h := shr_n x 7
  rw [show ((2 : Int) ^ 7) = 128 by decide] at h
  exact h
theorem rr_lit10 (x : W) : bits .or .u32 (IntKind.u32.wrap (un x * (4194304 : Int))) (un x / (1024 : Int)) = un (rr x 10) := by
  have h := rr_n x 10
  rw [show ((2 : Int) ^ (32 - 10)) = 4194304 by decide, show ((2 : Int) ^ 10) = 1024 by decide] at h
  exact h
theorem shr_lit10 (x : W) : un x / (1024 : Int) = un (x >>> 10) := by
  have h := shr_n x 10
  rw [show ((2 : Int) ^ 10) = 1024 by decide] at h
  exact h
theorem rr_lit11 (x : W) : bits .or .u32 (IntKind.u32.wrap (un x * (2097152 : Int))) (un x / (2048 : Int)) = un (rr x 11) := by
  have h := rr_n x 11
  rw [show ((2 : Int) ^ (32 - 11)) = 2097152 by decide, show ((2 : Int) ^ 11) = 2048 by decide] at h
  exact h
theorem shr_lit11 (x : W) : un x / (2048 : Int) = un (x >>> 11) := by
  have h := shr_n x 11
  rw [show ((2 : Int) ^ 11) = 2048 by decide] at h
  exact h
theorem rr_lit13 (x : W) : bits .or .u32 (IntKind.u32.wrap (un x * (524288 : Int))) (un x / (8192 : Int)) = un (rr x 13) := by
  have h := rr_n x 13
  rw [show ((2 : Int) ^ (32 - 13)) = 524288 by decide, show ((2 : Int) ^ 13) = 8192 by decide] at h
  exact h
theorem shr_lit13 (x : W) : un x / (8192 : Int) = un (x >>> 13) := by
  have h := shr_n x 13
  rw [show ((2 : Int) ^ 13) = 8192 by decide] at h
  exact h
theorem rr_lit17 (x : W) : bits .or .u32 (IntKind.u32.wrap (un x * (32768 : Int))) (un x / (131072 : Int)) = un (rr x 17) := by
  have h := rr_n x 17
  rw [show ((2 : Int) ^ (32 - 17)) = 32768 by decide, show ((2 : Int) ^ 17) = 131072 by decide] at h
  exact h
theorem shr_lit17 (x : W) : un x / (131072 : Int) = un (x >>> 17) := by
  have h := shr_n x 17
  rw [show ((2 : Int) ^ 17) = 131072 by decide] at h
  exact h
theorem rr_lit18 (x : W) : bits .or .u32 (IntKind.u32.wrap (un x * (16384 : Int))) (un x / (262144 : Int)) = un (rr x 18) := by
  have h := rr_n x 18
  rw [show ((2 : Int) ^ (32 - 18)) = 16384 by decide, show ((2 : Int) ^ 18) = 262144 by decide] at h
  exact h
theorem shr_lit18 (x : W) : un x / (262144 : Int) = un (x >>> 18) := by
  have h := shr_n x 18
  rw [show ((2 : Int) ^ 18) = 262144 by decide] at h
  exact h
theorem rr_lit19 (x : W) : bits .or .u32 (IntKind.u32.wrap (un x * (8192 : Int))) (un x / (524288 : Int)) = un (rr x 19) := by
  have h := rr_n x 19
  rw [show ((2 : Int) ^ (32 - 19)) = 8192 by decide, show ((2 : Int) ^ 19) = 524288 by decide] at h
  exact h
theorem shr_lit19 (x : W) : un x / (524288 : Int) = un (x >>> 19) := by
  have h := shr_n x 19
  rw [show ((2 : Int) ^ 19) = 524288 by decide] at h
  exact h
theorem rr_lit22 (x : W) : bits .or .u32 (IntKind.u32.wrap (un x * (1024 : Int))) (un x / (4194304 : Int)) = un (rr x 22) := by
  have h := rr_n x 22
  rw [show ((2 : Int) ^ (32 - 22)) = 1024 by decide, show ((2 : Int) ^ 22) = 4194304 by decide] at h
  exact h
theorem shr_lit22 (x : W) : un x / (4194304 : Int) = un (x >>> 22) := by
  have h := shr_n x 22
  rw [show ((2 : Int) ^ 22) = 4194304 by decide] at h
  exact h
theorem rr_lit25 (x : W) : bits .or .u32 (IntKind.u32.wrap (un x * (128 : Int))) (un x / (33554432 : Int)) = un (rr x 25) := by
  have h := rr_n x 25
  rw [show ((2 : Int) ^ (32 - 25)) = 128 by decide, show ((2 : Int) ^ 25) = 33554432 by decide] at h
  exact h
theorem shr_lit25 (x : W) : un x / (33554432 : Int) = un (x >>> 25) := by
  have h := shr_n x 25
  rw [show ((2 : Int) ^ 25) = 33554432 by decide] at h
  exact h
theorem rot_2 (x : W) (w : World) :
    Calls Tryz.prog 103 #[u x, .int .i64 (-2)] w fun e w' => e = .returned (u (rr x 2)) ∧ w = w' := by
  unfold u
  have hx := (un_bd x).1
  have e1 : bits BinOp.and IntKind.u64 (IntKind.u64.wrap (-2)) 31 = 30 := by decide +kernel
  go_enter Tryz.func103, Tryz.ntmps103
  go_wp2
  go_ret
  exact ⟨ret_u32 (rr_lit2 x), rfl⟩
theorem rot_6 (x : W) (w : World) :
    Calls Tryz.prog 103 #[u x, .int .i64 (-6)] w fun e w' => e = .returned (u (rr x 6)) ∧ w = w' := by
  unfold u
  have hx := (un_bd x).1
  have e1 : bits BinOp.and IntKind.u64 (IntKind.u64.wrap (-6)) 31 = 26 := by decide +kernel
  go_enter Tryz.func103, Tryz.ntmps103
  go_wp2
  go_ret
  exact ⟨ret_u32 (rr_lit6 x), rfl⟩
theorem rot_7 (x : W) (w : World) :
    Calls Tryz.prog 103 #[u x, .int .i64 (-7)] w fun e w' => e = .returned (u (rr x 7)) ∧ w = w' := by
  unfold u
  have hx := (un_bd x).1
  have e1 : bits BinOp.and IntKind.u64 (IntKind.u64.wrap (-7)) 31 = 25 := by decide +kernel
  go_enter Tryz.func103, Tryz.ntmps103
  go_wp2
  go_ret
  exact ⟨ret_u32 (rr_lit7 x), rfl⟩
theorem rot_11 (x : W) (w : World) :
    Calls Tryz.prog 103 #[u x, .int .i64 (-11)] w fun e w' => e = .returned (u (rr x 11)) ∧ w = w' := by
  unfold u
  have hx := (un_bd x).1
  have e1 : bits BinOp.and IntKind.u64 (IntKind.u64.wrap (-11)) 31 = 21 := by decide +kernel
  go_enter Tryz.func103, Tryz.ntmps103
  go_wp2
  go_ret
  exact ⟨ret_u32 (rr_lit11 x), rfl⟩
theorem rot_13 (x : W) (w : World) :
    Calls Tryz.prog 103 #[u x, .int .i64 (-13)] w fun e w' => e = .returned (u (rr x 13)) ∧ w = w' := by
  unfold u
  have hx := (un_bd x).1
  have e1 : bits BinOp.and IntKind.u64 (IntKind.u64.wrap (-13)) 31 = 19 := by decide +kernel
  go_enter Tryz.func103, Tryz.ntmps103
  go_wp2
  go_ret
  exact ⟨ret_u32 (rr_lit13 x), rfl⟩
theorem rot_17 (x : W) (w : World) :
    Calls Tryz.prog 103 #[u x, .int .i64 (-17)] w fun e w' => e = .returned (u (rr x 17)) ∧ w = w' := by
  unfold u
  have hx := (un_bd x).1
  have e1 : bits BinOp.and IntKind.u64 (IntKind.u64.wrap (-17)) 31 = 15 := by decide +kernel
  go_enter Tryz.func103, Tryz.ntmps103
  go_wp2
  go_ret
  exact ⟨ret_u32 (rr_lit17 x), rfl⟩
theorem rot_18 (x : W) (w : World) :
    Calls Tryz.prog 103 #[u x, .int .i64 (-18)] w fun e w' => e = .returned (u (rr x 18)) ∧ w = w' := by
  unfold u
  have hx := (un_bd x).1
  have e1 : bits BinOp.and IntKind.u64 (IntKind.u64.wrap (-18)) 31 = 14 := by decide +kernel
  go_enter Tryz.func103, Tryz.ntmps103
  go_wp2
  go_ret
  exact ⟨ret_u32 (rr_lit18 x), rfl⟩
theorem rot_19 (x : W) (w : World) :
    Calls Tryz.prog 103 #[u x, .int .i64 (-19)] w fun e w' => e = .returned (u (rr x 19)) ∧ w = w' := by
  unfold u
  have hx := (un_bd x).1
  have e1 : bits BinOp.and IntKind.u64 (IntKind.u64.wrap (-19)) 31 = 13 := by decide +kernel
  go_enter Tryz.func103, Tryz.ntmps103
  go_wp2
  go_ret
  exact ⟨ret_u32 (rr_lit19 x), rfl⟩
theorem rot_22 (x : W) (w : World) :
    Calls Tryz.prog 103 #[u x, .int .i64 (-22)] w fun e w' => e = .returned (u (rr x 22)) ∧ w = w' := by
  unfold u
  have hx := (un_bd x).1
  have e1 : bits BinOp.and IntKind.u64 (IntKind.u64.wrap (-22)) 31 = 10 := by decide +kernel
  go_enter Tryz.func103, Tryz.ntmps103
  go_wp2
  go_ret
  exact ⟨ret_u32 (rr_lit22 x), rfl⟩
theorem rot_25 (x : W) (w : World) :
    Calls Tryz.prog 103 #[u x, .int .i64 (-25)] w fun e w' => e = .returned (u (rr x 25)) ∧ w = w' := by
  unfold u
  have hx := (un_bd x).1
  have e1 : bits BinOp.and IntKind.u64 (IntKind.u64.wrap (-25)) 31 = 7 := by decide +kernel
  go_enter Tryz.func103, Tryz.ntmps103
  go_wp2
  go_ret
  exact ⟨ret_u32 (rr_lit25 x), rfl⟩
theorem rotated_6 (x : W) (w : World) :
    Calls Tryz.prog 104 #[u x, .int .i64 6, .int .i64 11, .int .i64 25] w fun e w' => e = .returned (u (rot3 x 6 11 25)) ∧ w = w' := by
  have h1 := fun w => rot_6 x w
  have h2 := fun w => rot_11 x w
  have h3 := fun w => rot_25 x w
  unfold u at *
  go_enter Tryz.func104, Tryz.ntmps104
  go_wp2_with (first
    | (go_at_call 103; (with_reducible refine (h1 _).mono ?_); rintro e w1 ⟨rfl, rfl⟩)
    | (go_at_call 103; (with_reducible refine (h2 _).mono ?_); rintro e w1 ⟨rfl, rfl⟩)
    | (go_at_call 103; (with_reducible refine (h3 _).mono ?_); rintro e w1 ⟨rfl, rfl⟩))
  go_ret
  exact ⟨ret_u32 (by unfold rot3; rw [xor_n, xor_n]), rfl⟩
theorem rotated_2 (x : W) (w : World) :
    Calls Tryz.prog 104 #[u x, .int .i64 2, .int .i64 13, .int .i64 22] w fun e w' => e = .returned (u (rot3 x 2 13 22)) ∧ w = w' := by
  have h1 := fun w => rot_2 x w
  have h2 := fun w => rot_13 x w
  have h3 := fun w => rot_22 x w
  unfold u at *
  go_enter Tryz.func104, Tryz.ntmps104
  go_wp2_with (first
    | (go_at_call 103; (with_reducible refine (h1 _).mono ?_); rintro e w1 ⟨rfl, rfl⟩)
    | (go_at_call 103; (with_reducible refine (h2 _).mono ?_); rintro e w1 ⟨rfl, rfl⟩)
    | (go_at_call 103; (with_reducible refine (h3 _).mono ?_); rintro e w1 ⟨rfl, rfl⟩))
  go_ret
  exact ⟨ret_u32 (by unfold rot3; rw [xor_n, xor_n]), rfl⟩
end Go.Proofs.YthboebhghaabnaaGreatDoor

namespace Go.Proofs.YthboebhghaabnaaGreatDoor
open Go.RowKit Fk Sha
/-! Four bytes are a word; a word is four bytes. -/
def bv (c : B) : Value := .int .u8 (bn c)
def encB (c : B) : List Value := [bv c]
abbrev SlB (w : World) (B0 : Nat) (v : Value) (l : List B) : Prop := SlG 1 encB w B0 v l
theorem wd_snoc (l : List B) (c : B) : wd (l ++ [c]) = wd l <<< 8 ||| c.setWidth 32 := by unfold wd; rw [List.foldl_append]; rfl
theorem take_snocB {l : List B} {k : Nat} (h : k < l.length) : l.take (k + 1) = l.take k ++ [l.getD k default] := by
  rw [List.take_succ_eq_append_getElem h, List.getD_eq_getElem?_getD, List.getElem?_eq_getElem h]; rfl
theorem wd_step {l : List B} {k : Nat} (h : k < l.length) : bits .or .u32 (un (wd (l.take k)) * (256 : Int) % 4294967296) (bn (l.getD k default)) = un (wd (l.take (k + 1))) := by
  rw [take_snocB h, wd_snoc]
  have e := shl_n (wd (l.take k)) 8
  rw [show ((2 : Int) ^ 8) = 256 by decide] at e
  rw [e, ← byte_n, or_n]
set_option maxHeartbeats 1000000 in
theorem word_any (l : List B) (b off len cap : Nat) (w : World) (hl : l.length = 4) (hlen : 4 ≤ cap) (hcap : cap ≤ 9223372036854775807) (h : ∀ i, i < 4 → w.cell? ⟨b, off + i, none⟩ = some (bv (l.getD i default))) :
    Calls Tryz.prog 102 #[.slice (some ⟨b, off, none⟩) len cap] w fun e w' => e = .returned (u (wd l)) ∧ w = w' := by
  have HC := Lib.hid h
  clear h
  unfold u
  go_enter Tryz.func102, Tryz.ntmps102
  go_wp2_with fail
  go_loopg [2, 8] 4 (fun g n i wr => w = wr ∧ ∃ k : Nat, i = .int .i64 k ∧ k + g = 4 ∧ n = .int .u32 (un (wd (l.take k))))
  case atStart => exact ⟨rfl, 0, rfl, by omega, rfl⟩
  case round =>
    obtain ⟨rfl, k, rfl, hk, rfl⟩ := hrel
    by_cases hlt : k < 4
    · have d := HC.out k hlt
      have hs := wd_step (show k < l.length by omega)
      obtain ⟨x, hx⟩ : ∃ x, l.getD k default = x := ⟨_, rfl⟩
      rw [hx] at d hs
      obtain ⟨hx0, hx1⟩ := bn_bd x
      unfold bv at d
      clear hx
      generalize bn x = c at *
      generalize un (wd (l.take k)) = n at *
      have HS := Lib.hid hs
      clear hs
      go_wp2_with fail
      go_roundg (gk - 1)
      case measure => omega
      case rel => exact ⟨rfl, k + 1, by go_num, by omega, by rw [← HS.out]⟩
    · obtain rfl : k = 4 := by omega
      have hs : l.take 4 = l := List.take_of_length_le (by omega)
      rw [hs]
      go_wp2_with fail
      go_ret
      exact ⟨rfl, rfl⟩

/-! ### put -/
theorem grownBy_trans {a b c : World} {row : Option Nat} (h : a.grownBy b row) (k : b.grownBy c row) : a.grownBy c row :=
  ⟨k.os.trans h.os, k.tape.trans h.tape, k.output.trans h.output, Nat.le_trans h.size k.size, fun i hi hne => (k.block i (Nat.lt_of_lt_of_le hi h.size) hne).trans (h.block i hi hne)⟩
theorem grownBy_set (w : World) (g i : Nat) (v : Value) : w.grownBy (w.setCell ⟨g, i, none⟩ v) (some g) :=
  ⟨rfl, rfl, rfl, by simp [World.setCell], fun k hk hne => Below.heap_setCell _ _ _ _ (fun e => hne (by rw [e]))⟩
/-- the last k of n bytes are written over the cells from off on -/
def putTo (n off x k : Nat) (vs : List Value) : List Value := vs.take (off + (n - k)) ++ (((be n x).drop (n - k)).map bv ++ vs.drop (off + n))
theorem putTo_zero (n off x : Nat) (vs : List Value) : putTo n off x 0 vs = vs := by
  unfold putTo
  rw [List.drop_of_length_le (by rw [be_length]; omega)]
  simp
theorem be_getD {n x i : Nat} (h : i < n) : (be n x)[i]? = some (BitVec.ofNat 8 (x / 2 ^ (8 * (n - 1 - i)))) := by
  unfold be; rw [List.getElem?_map, List.getElem?_range h]; rfl
theorem putTo_length {n off x k : Nat} {vs : List Value} (h : off + n ≤ vs.length) : (putTo n off x k vs).length = vs.length := by unfold putTo; simp [be_length]; omega
theorem putTo_get {n off x k : Nat} {vs : List Value} (h : off + n ≤ vs.length) (hk : k ≤ n) (i : Nat) :
    (putTo n off x k vs)[i]? = if off + (n - k) ≤ i ∧ i < off + n then some (bv (BitVec.ofNat 8 (x / 2 ^ (8 * (n - 1 - (i - off)))))) else vs[i]? := by
  have hl1 : (vs.take (off + (n - k))).length = off + (n - k) := by rw [List.length_take]; omega
  have hl2 : (((be n x).drop (n - k)).map bv).length = k := by rw [List.length_map, List.length_drop, be_length]; omega
  unfold putTo
  by_cases h1 : i < off + (n - k)
  · rw [List.getElem?_append_left (by rw [hl1]; exact h1), List.getElem?_take_of_lt h1, if_neg (by omega)]
  · rw [List.getElem?_append_right (by rw [hl1]; omega), hl1]
    by_cases h2 : i < off + n
    · rw [List.getElem?_append_left (by rw [hl2]; omega), List.getElem?_map, List.getElem?_drop, if_pos (by omega), be_getD (by omega)]
      show some _ = some _
      congr 5
      omega
    · rw [List.getElem?_append_right (by rw [hl2]; omega), hl2, List.getElem?_drop, if_neg (by omega)]
      congr 1
      omega
theorem putTo_succ {n off x k : Nat} {vs : List Value} (h : off + n ≤ vs.length) (hk : k < n) :
    (putTo n off x k vs).set (off + (n - 1 - k)) (.int .u8 (((x / 2 ^ (8 * k)) % 256 : Nat) : Int)) = putTo n off x (k + 1) vs := by
  apply List.ext_getElem?
  intro i
  rw [List.getElem?_set, putTo_get h (by omega), putTo_get h (by omega), putTo_length h]
  by_cases hi : off + (n - 1 - k) = i
  · rw [if_pos hi, if_pos (by omega), if_pos (by omega)]
    unfold bv bn
    rw [BitVec.toNat_ofNat, show n - 1 - (i - off) = k by omega]
  · rw [if_neg hi]
    by_cases h1 : off + (n - k) ≤ i ∧ i < off + n
    · rw [if_pos h1, if_pos (by omega)]
    · rw [if_neg h1, if_neg (by omega)]
set_option maxHeartbeats 1000000 in
theorem put_any (n off cap x g : Nat) (t : TypeId) (vs : List Value) (w : World) (hR : Row w g t vs) (h : off + n ≤ vs.length) (hx : x < 18446744073709551616) (hn : n ≤ 8) :
    Calls Tryz.prog 94 #[.slice (some ⟨g, off, none⟩) n cap, .int .u64 (x : Int)] w fun e w' => e = .returned (.tuple #[]) ∧ Row w' g t (putTo n off x n vs) ∧ w.grownBy w' (some g) := by
  go_enter Tryz.func94, Tryz.ntmps94
  go_wp2_with fail
  go_loopg [7] n (fun gk i wr => w.grownBy wr (some g) ∧ ∃ k : Nat, i = .int .i64 k ∧ k + gk = n ∧ Row wr g t (putTo n off x k vs))
  case atStart => exact ⟨World.grownBy.refl _ _, 0, rfl, by omega, by rw [putTo_zero]; exact hR⟩
  case round =>
    obtain ⟨hg, k, rfl, hk, hRk⟩ := hrel
    by_cases hlt : k < n
    · have hf := Row.frozen hRk (off + (n - 1 - k))
      obtain ⟨v0, hv0⟩ : ∃ v0, (putTo n off x k vs)[off + (n - 1 - k)]? = some v0 := ⟨_, List.getElem?_eq_getElem (by rw [putTo_length h]; omega)⟩
      have hs := (Row.cell hRk (off + (n - 1 - k))).trans hv0
      have hp := putTo_succ (x := x) h hlt
      rw [Int.natCast_emod, Int.natCast_ediv, Int.natCast_pow] at hp
      have hx0 : (0 : Int) ≤ x := Int.natCast_nonneg _
      have hx1 : (x : Int) < 18446744073709551616 := by omega
      have hR2 := Row.store hRk (off + (n - 1 - k)) (.int .u8 ((x : Int) / 2 ^ (8 * k) % 256))
      have e256 : ((256 : Nat) : Int) = 256 := rfl
      have e2 : ((2 : Nat) : Int) = 2 := rfl
      rw [e256, e2] at hp
      rw [hp] at hR2
      have hg2 := grownBy_trans hg (grownBy_set wr g (off + (n - 1 - k)) (.int .u8 ((x : Int) / 2 ^ (8 * k) % 256)))
      have HR := Lib.hid hR2
      have HG := Lib.hid hg2
      clear hp hR2 hg2 e256 e2 hv0 hR hRk hg
      generalize hX : (x : Int) = X at *
      clear hX
      go_wp2_with fail
      go_roundg (gk - 1)
      case measure => omega
      case rel => exact ⟨HG.out, k + 1, by go_num, by omega, HR.out⟩
    · obtain rfl : k = n := by omega
      go_wp2_with fail
      go_end0
      exact ⟨rfl, hRk, hg⟩
end Go.Proofs.YthboebhghaabnaaGreatDoor
