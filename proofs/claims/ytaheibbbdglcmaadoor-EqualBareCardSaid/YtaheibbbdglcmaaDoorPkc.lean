import Derived.StillTail
import Derived.StillTactics
import Derived.OrdersHeld
import Derived.StillTailTactics
import Derived.Deep.Cut
import Derived.IntWalk
import Init
import Derived.Test.YtaheibbbdglcmaaDoorPkb
/-! A region that draws its order: its head in one given order, under a condition on the world that holds till the head has ended; its tail waits for the head. -/
namespace Fk
open Go
section
variable {P : Program} {ops : Array Oper} {Q : Exit → Act → World → Prop} {md : Region.Mode} {S : World → Prop} {n : Nat}

/-- Which operations of the head hang on the world: those below n that are not listed in fr. -/
def heldB (n : Nat) (fr : List Nat) (i : Nat) : Bool := decide (i < n) && !fr.contains i
def sinkF (md : Region.Mode) (ops : Array Oper) (n : Nat) (fr : List Nat) : Bool :=
  (List.range n).all fun i => fr.contains i || (List.range (n + 1)).any fun j => decide (i < j) && Region.waitsFor md ops j i && !fr.contains j
/-- Every operation that need not wait has come up. -/
def FrDone (n : Nat) (fr : List Nat) (listed : Array Bool) : Prop := ∀ i, i < n → heldB n fr i = false → listed.getD i true = true

theorem tail_waitsF {n : Nat} {fr : List Nat} {listed : Array Bool} (hs : sinkF md ops n fr = true) (hc : Region.chainB md ops n = true) (hn : n < ops.size) (inv : HeadInv md ops n listed) :
    ∀ (d i : Nat), n - i = d → i < n → fr.contains i = false → listed.getD i true = false → ∀ t, n ≤ t → t ∉ Region.ready md ops listed := by
  intro d
  induction d using Nat.strongRecOn with
  | _ d ih =>
    intro i hd hi hfr hun t ht hr
    obtain ⟨_, ot, hot, hall⟩ := mem_ready.1 hr
    have htlt : t < ops.size := (Array.getElem?_eq_some_iff.1 hot).1
    by_cases htn : t = n
    · subst htn
      have h1 := List.all_eq_true.1 hs i (List.mem_range.2 hi)
      rw [hfr, Bool.false_or] at h1
      obtain ⟨j, hj, hj2⟩ := List.any_eq_true.1 h1
      simp only [Bool.and_eq_true, decide_eq_true_eq, Bool.not_eq_true'] at hj2
      obtain ⟨oj, hoj, e, he, hb, hon⟩ := Region.waitsFor_spec hj2.1.2
      have hjle : j ≤ t := by have := List.mem_range.1 hj; omega
      by_cases hjt : j = t
      · subst hjt
        have : oj = ot := Option.some.inj (hoj.symm.trans hot)
        subst this
        have h2 := hall e he hb
        rw [hon, getD_both hun] at h2
        cases h2
      · cases hl : listed.getD j false with
        | true =>
          have h2 := inv.closed j oj hoj hl e he hb
          rw [hon, getD_both hun] at h2
          cases h2
        | false =>
          have hjs : j < listed.size := by rw [inv.size]; omega
          exact ih (t - j) (by omega) j rfl (by omega) hj2.2 (getD_in hjs hl) t (Nat.le_refl _) hr
    · have h1 := List.all_eq_true.1 hc t (List.mem_range.2 htlt)
      simp only [Bool.or_eq_true, decide_eq_true_eq] at h1
      rcases h1 with h1 | h1
      · omega
      · obtain ⟨o', ho', e, he, hb, hon⟩ := Region.waitsFor_spec h1
        have : o' = ot := Option.some.inj (ho'.symm.trans hot)
        subst this
        have h2 := hall e he hb
        rw [hon, getD_both (inv.tail (t - 1) (by omega) (by omega))] at h2
        cases h2

/-- Whatever order is picked from here on, and S holds behind every operation of the head that hangs on the world. -/
def wpAnyG (P : Program) (md : Region.Mode) (ops : Array Oper) (Q : Exit → Act → World → Prop) (S : World → Prop) (n : Nat) (fr : List Nat) : Nat → Array Bool → Act → World → Prop
  | 0, listed, a, w => Region.ready md ops listed = [] ∧ Q .normal a w
  | fuel + 1, listed, a, w =>
    (Region.ready md ops listed = [] → Q .normal a w) ∧
    ∀ i ∈ Region.ready md ops listed, wpOp P ops Q i (fun a' w' => (heldB n fr i = true → S w') ∧ wpAnyG P md ops Q S n fr fuel (listed.setIfInBounds i true) a' w') a w
theorem wpAny_of_G {fr : List Nat} : ∀ (fuel : Nat) (listed : Array Bool) (a : Act) (w : World), wpAnyG P md ops Q S n fr fuel listed a w → wpAny P md ops Q fuel listed a w
  | 0, _, _, _, h => h
  | fuel + 1, _, _, _, h => ⟨h.1, fun i hi => wpOp_mono (fun _ _ h' => wpAny_of_G fuel _ _ _ h'.2) (h.2 i hi)⟩

theorem wpAnyG_first {fr : List Nat} {i : Nat} {oi : Oper} {v : Value} (hi : ops[i]? = some oi) (hsel : ∀ (j : Nat) (o : Oper) cs b, ops[j]? = some o → o.op ≠ .select cs b)
    (hs : sinkF md ops n fr = true) (hc : Region.chainB md ops n = true) (hn : n < ops.size) (hin : i < n) (hfi : fr.contains i = false)
    (hQ : ∀ c a w, Q (.panic c) (a.put oi.dst v) w → Q (.panic c) a w) :
    ∀ (fuel : Nat) (listed : Array Bool) (a : Act) (w : World), HeadInv md ops n listed → FrDone n fr listed →
      (∀ j oj, ops[j]? = some oj → j ≠ i → listed.getD j true = false → (∀ e ∈ oj.after, Region.binds md e = true → e.on ≠ i) → oi.apart ops oj = true) →
      i ∈ Region.ready md ops listed → YieldsIf P ops S oi v a → S w →
      wpAnyG P md ops Q S n fr fuel (listed.setIfInBounds i true) (a.put oi.dst v) w → wpAnyG P md ops Q S n fr (fuel + 1) listed a w := by
  intro fuel
  induction fuel with
  | zero =>
    intro listed a w _ _ _ hr hy hS H
    refine ⟨fun h => (by rw [h] at hr; cases hr), fun j hj => ?_⟩
    by_cases hji : j = i
    · subst hji; exact hy.wpOp hi hS ⟨fun _ => hS, H⟩
    · have := ready_mono hj hji
      rw [H.1] at this
      cases this
  | succ fuel ih =>
    intro listed a w inv hfd hfree hr hy hS H
    have hun := (mem_ready.1 hr).1
    refine ⟨fun h => (by rw [h] at hr; cases hr), fun j hj => ?_⟩
    have hjn : j < n := by
      rcases Nat.lt_or_ge j n with h | h
      · exact h
      · exact absurd hj (tail_waitsF hs hc hn inv _ i rfl hin hfi hun j h)
    by_cases hji : j = i
    · subst hji; exact hy.wpOp hi hS ⟨fun _ => hS, H⟩
    · have h1 := H.2 j (ready_mono hj hji)
      obtain ⟨hjun, oj, hoj, hall⟩ := mem_ready.1 hj
      have hjh : heldB n fr j = true := by
        cases hb : heldB n fr j with
        | true => rfl
        | false => have := hfd j hjn hb; rw [hjun] at this; cases this
      have hnot : ∀ e ∈ oj.after, Region.binds md e = true → e.on ≠ i := fun e he hb heq => by
        have h1 := hall e he hb
        rw [heq, getD_both hun] at h1
        cases h1
      have h2 := wpOp_putIf hoj (hfree j oj hoj hji hjun hnot) (fun cs b => hsel i oi cs b hi) (fun cs b => hsel j oj cs b hoj) hQ hy h1
      have hfree' : ∀ k ok, ops[k]? = some ok → k ≠ i → (listed.setIfInBounds j true).getD k true = false →
          (∀ e ∈ ok.after, Region.binds md e = true → e.on ≠ i) → oi.apart ops ok = true := fun k ok hk hki hun hno => by
        refine hfree k ok hk hki ?_ hno
        by_cases hjk : j = k
        · subst hjk; exact hjun
        · rw [getD_set_ne true hjk] at hun; exact hun
      have hfd' : FrDone n fr (listed.setIfInBounds j true) := fun k hk hb => by
        by_cases hjk : j = k
        · subst hjk; rw [hjh] at hb; cases hb
        · rw [getD_set_ne true hjk]; exact hfd k hk hb
      refine wpOp_mono (fun a' w' h3 => ⟨h3.2.1, ih (listed.setIfInBounds j true) a' w' (inv.set hj hjn) hfd' hfree' (ready_mono hr (Ne.symm hji)) h3.1 (h3.2.1 hjh) ?_⟩) h2
      rw [Array.setIfInBounds_comm _ _ hji]
      exact h3.2.2

/-- What yields its value in whatever world may be taken first, though the tail does not wait for it. -/
theorem wpAnyG_free {fr : List Nat} {i : Nat} {oi : Oper} {v : Value} (hi : ops[i]? = some oi) (hsel : ∀ (j : Nat) (o : Oper) cs b, ops[j]? = some o → o.op ≠ .select cs b)
    (hfi : heldB n fr i = false) (hQ : ∀ c a w, Q (.panic c) (a.put oi.dst v) w → Q (.panic c) a w) :
    ∀ (fuel : Nat) (listed : Array Bool) (a : Act) (w : World),
      (∀ j oj, ops[j]? = some oj → j ≠ i → listed.getD j true = false → (∀ e ∈ oj.after, Region.binds md e = true → e.on ≠ i) → oi.apart ops oj = true) →
      i ∈ Region.ready md ops listed → YieldsIf P ops (fun _ => True) oi v a →
      wpAnyG P md ops Q S n fr fuel (listed.setIfInBounds i true) (a.put oi.dst v) w → wpAnyG P md ops Q S n fr (fuel + 1) listed a w := by
  intro fuel
  induction fuel with
  | zero =>
    intro listed a w _ hr hy H
    refine ⟨fun h => (by rw [h] at hr; cases hr), fun j hj => ?_⟩
    by_cases hji : j = i
    · subst hji; exact hy.wpOp hi trivial ⟨fun h => (by rw [hfi] at h; cases h), H⟩
    · have := ready_mono hj hji
      rw [H.1] at this
      cases this
  | succ fuel ih =>
    intro listed a w hfree hr hy H
    have hun := (mem_ready.1 hr).1
    refine ⟨fun h => (by rw [h] at hr; cases hr), fun j hj => ?_⟩
    by_cases hji : j = i
    · subst hji; exact hy.wpOp hi trivial ⟨fun h => (by rw [hfi] at h; cases h), H⟩
    · have h1 := H.2 j (ready_mono hj hji)
      obtain ⟨hjun, oj, hoj, hall⟩ := mem_ready.1 hj
      have hnot : ∀ e ∈ oj.after, Region.binds md e = true → e.on ≠ i := fun e he hb heq => by
        have h1 := hall e he hb
        rw [heq, getD_both hun] at h1
        cases h1
      have h2 := wpOp_putIf hoj (hfree j oj hoj hji hjun hnot) (fun cs b => hsel i oi cs b hi) (fun cs b => hsel j oj cs b hoj) hQ hy h1
      have hfree' : ∀ k ok, ops[k]? = some ok → k ≠ i → (listed.setIfInBounds j true).getD k true = false →
          (∀ e ∈ ok.after, Region.binds md e = true → e.on ≠ i) → oi.apart ops ok = true := fun k ok hk hki hun hno => by
        refine hfree k ok hk hki ?_ hno
        by_cases hjk : j = k
        · subst hjk; exact hjun
        · rw [getD_set_ne true hjk] at hun; exact hun
      refine wpOp_mono (fun a' w' h3 => ⟨h3.2.1, ih (listed.setIfInBounds j true) a' w' hfree' (ready_mono hr (Ne.symm hji)) h3.1 ?_⟩) h2
      rw [Array.setIfInBounds_comm _ _ hji]
      exact h3.2.2

theorem wpAnyG_seq {fr : List Nat} : ∀ (l : List Oper) (k : Nat) (listed : Array Bool) (a : Act) (w : World), n ≤ k → (∀ j, l[j]? = ops[k + j]?) →
    Region.seqB md ops l.length k listed = true → wpList P ops Q l a w → wpAnyG P md ops Q S n fr l.length listed a w
  | [], _, _, _, _, _, _, hB, h => ⟨by simpa [Region.seqB] using hB, h⟩
  | o :: l, k, listed, a, w, hk, hl, hB, h => by
    have h0 : ops[k]? = some o := by simpa using (hl 0).symm
    simp only [List.length_cons, Region.seqB, Bool.and_eq_true, decide_eq_true_eq] at hB
    refine ⟨fun h1 => (by rw [hB.1] at h1; cases h1), fun i hi => ?_⟩
    rw [hB.1] at hi
    have hik : i = k := by simpa using hi
    subst hik
    have hw : wpOp P ops Q i (wpList P ops Q l) a w := by unfold wpOp; simp only [h0]; exact h
    exact wpOp_mono (fun a' w' h' => ⟨fun hc => (by simp [heldB] at hc; omega), wpAnyG_seq l (i + 1) _ a' w' (by omega) (fun j => by have := hl (j + 1); simpa [Nat.add_assoc, Nat.add_comm 1 j] using this) hB.2 h'⟩) hw

/-- The kinds of a step: 0: yields its value in whatever world; 1: in every world that meets S; 2: alone may come up. -/
def ordB (md : Region.Mode) (ops : Array Oper) (n : Nat) (fr : List Nat) : List (Nat × Nat) → Array Bool → Bool
  | [], listed => Region.seqB md ops (ops.size - n) n listed
  | (0, k) :: r, listed => decide (k < n) && fr.contains k && (Region.ready md ops listed).contains k && Region.free md ops listed k && ordB md ops n fr r (listed.setIfInBounds k true)
  | (1, k) :: r, listed => decide (k < n) && !fr.contains k && ((List.range n).all fun i => heldB n fr i || listed.getD i true) && (Region.ready md ops listed).contains k && Region.free md ops listed k && ordB md ops n fr r (listed.setIfInBounds k true)
  | (_ + 2, k) :: r, listed => decide (k < n) && !fr.contains k && decide (Region.ready md ops listed = [k]) && ordB md ops n fr r (listed.setIfInBounds k true)
/-- The walk along the given order. -/
def wpOrd (P : Program) (ops : Array Oper) (Q : Exit → Act → World → Prop) (S : World → Prop) (tl : List Oper) : List (Nat × Nat) → Act → World → Prop
  | [], a, w => wpList P ops Q tl a w
  | (0, k) :: r, a, w => ∃ o v, ops[k]? = some o ∧ YieldsIf P ops (fun _ => True) o v a ∧ wpOrd P ops Q S tl r (a.put o.dst v) w
  | (1, k) :: r, a, w => ∃ o v, ops[k]? = some o ∧ YieldsIf P ops S o v a ∧ wpOrd P ops Q S tl r (a.put o.dst v) w
  | (_ + 2, k) :: r, a, w => ∃ o, ops[k]? = some o ∧ if Region.wanted o (yielded ops a.tmps) then o.wp P a w (fun a' w' => S w' ∧ wpOrd P ops Q S tl r a' w') Q else wpOrd P ops Q S tl r (a.put o.dst undef) w

theorem ord_sound {fr : List Nat} (hQ : ∀ c a (d : Option Tmp) v w, Q (.panic c) (Act.put a d v) w → Q (.panic c) a w) (hsel : Region.noSelect ops = true) (hs : sinkF md ops n fr = true) (hc : Region.chainB md ops n = true) (hn : n < ops.size)
    (tl : List Oper) (htl : ∀ j, tl[j]? = ops[n + j]?) (hlen : tl.length = ops.size - n) :
    ∀ (ord : List (Nat × Nat)) (listed : Array Bool) (a : Act) (w : World), HeadInv md ops n listed → ordB md ops n fr ord listed = true → S w →
      wpOrd P ops Q S tl ord a w → wpAnyG P md ops Q S n fr (ord.length + (ops.size - n)) listed a w
  | [], listed, a, w, _, hB, _, h => by
    rw [List.length_nil, Nat.zero_add, ← hlen]
    exact wpAnyG_seq tl n listed a w (Nat.le_refl _) htl (by rw [hlen]; exact hB) h
  | (0, k) :: r, listed, a, w, inv, hB, hS, h => by
    obtain ⟨o, v, ho, hy, h⟩ := h
    simp only [ordB, Bool.and_eq_true, decide_eq_true_eq] at hB
    obtain ⟨⟨⟨⟨h1, hf⟩, h2⟩, h3⟩, h4⟩ := hB
    have hr : k ∈ Region.ready md ops listed := by simpa using h2
    rw [List.length_cons, show r.length + 1 + (ops.size - n) = (r.length + (ops.size - n)) + 1 by omega]
    exact wpAnyG_free ho (Region.noSelect_spec hsel) (by unfold heldB; rw [hf]; simp) (fun c a w => hQ c a o.dst v w) _ listed a w (Region.free_spec ho h3) hr hy
      (ord_sound hQ hsel hs hc hn tl htl hlen r _ _ w (inv.set hr h1) h4 hS h)
  | (1, k) :: r, listed, a, w, inv, hB, hS, h => by
    obtain ⟨o, v, ho, hy, h⟩ := h
    simp only [ordB, Bool.and_eq_true, decide_eq_true_eq, Bool.not_eq_true'] at hB
    obtain ⟨⟨⟨⟨⟨h1, hf⟩, hd⟩, h2⟩, h3⟩, h4⟩ := hB
    have hr : k ∈ Region.ready md ops listed := by simpa using h2
    have hfd : FrDone n fr listed := fun i hi hb => by
      have := List.all_eq_true.1 hd i (List.mem_range.2 hi)
      rw [hb, Bool.false_or] at this
      exact this
    rw [List.length_cons, show r.length + 1 + (ops.size - n) = (r.length + (ops.size - n)) + 1 by omega]
    exact wpAnyG_first ho (Region.noSelect_spec hsel) hs hc hn h1 hf (fun c a w => hQ c a o.dst v w) _ listed a w inv hfd (Region.free_spec ho h3) hr hy hS
      (ord_sound hQ hsel hs hc hn tl htl hlen r _ _ w (inv.set hr h1) h4 hS h)
  | (_ + 2, k) :: r, listed, a, w, inv, hB, hS, h => by
    obtain ⟨o, ho, h⟩ := h
    simp only [ordB, Bool.and_eq_true, decide_eq_true_eq, Bool.not_eq_true'] at hB
    obtain ⟨⟨⟨h1, hf⟩, h2⟩, h4⟩ := hB
    have hr : k ∈ Region.ready md ops listed := by rw [h2]; simp
    rw [List.length_cons, show r.length + 1 + (ops.size - n) = (r.length + (ops.size - n)) + 1 by omega]
    refine ⟨fun h0 => (by rw [h0] at hr; cases hr), fun i hi => ?_⟩
    rw [h2] at hi
    obtain rfl : i = k := by simpa using hi
    unfold wpOp
    simp only [ho]
    split
    · rename_i hw
      rw [if_pos hw] at h
      exact .inl (Oper.wp_mono (fun a' w' h' => ⟨fun _ => h'.1, ord_sound hQ hsel hs hc hn tl htl hlen r _ a' w' (inv.set hr h1) h4 h'.1 h'.2⟩) h)
    · rename_i hw
      rw [if_neg hw] at h
      exact ⟨fun _ => hS, ord_sound hQ hsel hs hc hn tl htl hlen r _ _ w (inv.set hr h1) h4 hS h⟩

def frOf (ord : List (Nat × Nat)) : List Nat := (ord.filter fun p => p.1 == 0).map (·.2)
def regB (ops : Array Oper) (n : Nat) (ord : List (Nat × Nat)) : Bool :=
  Region.noSelect ops && decide (n < ops.size) && decide (ord.length = n) && sinkF .any ops n (frOf ord) && Region.chainB .any ops n && ordB .any ops n (frOf ord) ord (Array.replicate ops.size false)

/-- **The law**: the head's n operations in the order 'ord', S all the while; then the tail. -/
theorem wp_region_ord {id : Nat} {a : Act} {w : World} {l : List Oper} (n : Nat) (ord : List (Nat × Nat)) (S : World → Prop) (hm : P.follows .mixedOrders = true) (hB : regB l.toArray n ord = true)
    (hQ : ∀ c a (d : Option Tmp) v w, Q (.panic c) (Act.put a d v) w → Q (.panic c) a w) (hS : S w.drew) (h : wpOrd P l.toArray Q S (l.drop n) ord a w.drew) : (Code.region id l.toArray true).wp P Q a w := by
  simp only [regB, Bool.and_eq_true, decide_eq_true_eq] at hB
  obtain ⟨⟨⟨⟨⟨hsel, hn⟩, hlen⟩, hs⟩, hc⟩, hord⟩ := hB
  have inv0 : HeadInv .any l.toArray n (Array.replicate l.toArray.size false) :=
    ⟨by simp, fun j oj _ hl => (by rw [getD_replicate_false] at hl; cases hl), fun t _ ht => getD_in (by simpa using ht) (getD_replicate_false _ _)⟩
  refine wp_region_any hm (wpAny_of_G (S := S) (n := n) (fr := frOf ord) _ _ _ _ ?_)
  have := ord_sound (P := P) (Q := Q) (S := S) hQ hsel hs hc hn (l.drop n) (fun j => by simp [List.getElem?_drop]) (by simp) ord _ a w.drew inv0 hord hS h
  rw [hlen, show n + (l.toArray.size - n) = l.toArray.size by omega] at this
  exact this

/-! ### the steps of the walk -/
theorem wpOrd_any {tl : List Oper} {k : Nat} {r : List (Nat × Nat)} {o : Oper} {v : Value} {a : Act} {w : World} (ho : ops[k]? = some o) (hw : Region.wanted o (yielded ops a.tmps) = true)
    (hy : ∀ w, (execOp a.eval o).run P w = .ok (.value v) w) (h : wpOrd P ops Q S tl r (a.put o.dst v) w) : wpOrd P ops Q S tl ((0, k) :: r) a w :=
  ⟨o, v, ho, .inl ⟨hw, fun w _ => hy w⟩, h⟩
theorem wpOrd_take {tl : List Oper} {k : Nat} {r : List (Nat × Nat)} {o : Oper} {v : Value} {a : Act} {w : World} (ho : ops[k]? = some o) (hw : Region.wanted o (yielded ops a.tmps) = true)
    (hy : ∀ w, S w → (execOp a.eval o).run P w = .ok (.value v) w) (h : wpOrd P ops Q S tl r (a.put o.dst v) w) : wpOrd P ops Q S tl ((1, k) :: r) a w :=
  ⟨o, v, ho, .inl ⟨hw, hy⟩, h⟩
theorem wpOrd_skip {tl : List Oper} {k : Nat} {r : List (Nat × Nat)} {o : Oper} {a : Act} {w : World} (ho : ops[k]? = some o) (hw : Region.wanted o (yielded ops a.tmps) = false)
    (h : wpOrd P ops Q S tl r (a.put o.dst undef) w) : wpOrd P ops Q S tl ((1, k) :: r) a w :=
  ⟨o, undef, ho, .inr ⟨hw, rfl⟩, h⟩
theorem wpOrd_step {tl : List Oper} {k : Nat} {r : List (Nat × Nat)} {o : Oper} {a : Act} {w : World} (ho : ops[k]? = some o)
    (h : ∀ K : Act → World → Prop, (∀ a w, S w → wpOrd P ops Q S tl r a w → K a w) → Region.wanted o (yielded ops a.tmps) = true ∧ o.wp P a w K Q) : wpOrd P ops Q S tl ((2, k) :: r) a w := by
  obtain ⟨h1, h2⟩ := h (fun a' w' => S w' ∧ wpOrd P ops Q S tl r a' w') (fun _ _ h1 h2 => ⟨h1, h2⟩)
  exact ⟨o, ho, by rw [if_pos h1]; exact h2⟩
theorem wpOrd_nil {tl : List Oper} {a : Act} {w : World} (h : wpList P ops Q tl a w) : wpOrd P ops Q S tl [] a w := h
end
end Fk

set_option linter.unusedSimpArgs false
set_option linter.unusedVariables false
namespace Go.Proofs.YtaheibbbdglcmaaDoor
open Go.RowKit Fk Sha
set_option maxRecDepth 100000 in
set_option maxHeartbeats 2000000 in
theorem ccheck_list (l : List Int) (A : Option Addr) (c : Nat) (w : World) (h : SlV w w.heap.size (.slice A l.length c) l) (hp : 1 ≤ l.length) :
    Calls Tryd.prog 87 #[listV A l.length c] w fun e w' => e = .returned (.int .i64 0) ∧ Below w.heap.size w w' := by
  have HS := Lib.hid h
  clear h
  go_enter Tryd.func87, Tryd.ntmps87
  have hB := below_alloc' w (.cells #[.int .i64 3, .int .i64 0, .string ⟨#[]⟩, .slice A l.length c] 104)
  have hf := fun W (h : Below w.heap.size w W) => formed_list l A c W ((HS.out.below h).mono h.size) hp
  have HF := Lib.hid hf
  clear hf
  go_wp2_with (go_at_call 96; (with_reducible refine (HF.out _ hB).mono ?_); rintro e wn ⟨rfl, hn⟩)
  go_ret
  exact ⟨rfl, hB.trans (hn.mono (by simp))⟩
theorem grown_below' {W W' : World} (h : Below W.heap.size W W') (row : Option Nat) : W.grownBy W' row := ⟨h.os, h.tape, h.output, h.size, fun k hk _ => h.block k hk⟩
set_option maxRecDepth 100000 in
set_option maxHeartbeats 2000000 in
theorem write_int (l : List B) (v : Value) (n : Nat) (hn : n < 4611686018427387904) (w : World) (h : ownB w v l) (hl : l.length ≤ 1000000000) :
    Calls Tryd.prog 97 #[v, intV (n : Int)] w fun e w' => ∃ v', e = .returned v' ∧ ownB w' v' (l ++ 1#8 :: numeral (2 * n)) ∧ Grew w w' v v' := by
  obtain ⟨i0, hi, hz0, hz1, hz2⟩ := info_parts infoB4
  have hg0 := Grew.alloc w v (.cells #[.int .i64 1, .int .i64 (n : Int), .string ⟨#[]⟩, .slice none 0 0] 104)
  have hown := h.alloc (.cells #[.int .i64 1, .int .i64 (n : Int), .string ⟨#[]⟩, .slice none 0 0] 104)
  have hc : (w.alloc (.cells #[.int .i64 1, .int .i64 (n : Int), .string ⟨#[]⟩, .slice none 0 0] 104)).cell? ⟨w.heap.size, 1, none⟩ = some (.int .i64 (n : Int)) := by simp
  have hz : w.heap.size < (w.alloc (.cells #[.int .i64 1, .int .i64 (n : Int), .string ⟨#[]⟩, .slice none 0 0] 104)).heap.size := by simp
  have hne : v.ownBlock ≠ some w.heap.size := fun e => by have := (h.lt _ e).2; omega
  have hu := fun w => unsigned_any n hn w
  obtain ⟨m, hm⟩ : ∃ m, 2 * n = m := ⟨_, rfl⟩
  rw [hm] at hu ⊢
  have hm2 : m < 9223372036854775808 := by omega
  have HU := Lib.hid hu
  clear hu hm
  go_enter Tryd.func97, Tryd.ntmps97
  go_wp2_with fail
  generalize w.alloc (.cells #[.int .i64 1, .int .i64 (n : Int), .string ⟨#[]⟩, .slice none 0 0] 104) = W at *
  refine wp_region_ord 6 [(1, 0), (1, 3), (1, 4), (2, 1), (2, 2), (2, 5)] (fun w' => w'.cell? ⟨w.heap.size, 1, none⟩ = some (.int .i64 (n : Int))) (by kernel_rfl) (by kernel_rfl) (fun _ _ d _ _ h => by cases d <;> exact h) hc ?_
  replace hg0 : Grew w W.drew v v := hg0.drew
  replace hown : ownB W.drew v l := hown.kept (grown_below' (Below.refl _ _).drew none) (Classical.em _)
  replace hc : W.drew.cell? ⟨w.heap.size, 1, none⟩ = some (.int .i64 (n : Int)) := hc
  replace hz : w.heap.size < W.drew.heap.size := hz
  generalize W.drew = W1 at *
  iterate 3
    refine wpOrd_take (v := ?_) rfl (by rfl) (fun w hSw => ?_) ?_
    rotate_left 1
    · go_simp
      with_reducible rfl
    simp only [Act.put, List.setIfInBounds_toArray, List.set_cons_zero, List.set_cons_succ]
  refine wpOrd_step rfl (fun K hK => ⟨by rfl, ?_⟩)
  go_simp
  have hc1 : (W1.alloc (.cells #[.int .u8 1] 5)).cell? ⟨w.heap.size, 1, none⟩ = some (.int .i64 (n : Int)) := (World.cell?_alloc_past _ _ _ hz).trans hc
  refine hK _ _ hc1 ?_
  clear hK K
  try simp only [Act.put, List.setIfInBounds_toArray, List.set_cons_zero, List.set_cons_succ]
  refine wpOrd_step rfl (fun K hK => ⟨by rfl, ?_⟩)
  refine wp_append_lies _ _ _ 22 rfl 0 5 i0 (.int .u8 0) 1 1 Tryd.underlying22 hi hz0 hz1 hz2 rfl (by decide) _ _ _ rfl (hown.alloc _) ⟨W1.heap.size, 0, none⟩ 1 1 [.int .u8 1] rfl rfl (cell_one_newB _ _ _) (by simp [Value.oneCell']) (by decide) (by unfold maxLen; omega) (by omega) (Nat.zero_le _) _ rfl ?_
  intro g cap w2 hown2 hgrow hat hlt
  replace hgrow : (W1.alloc (.cells #[.int .u8 1] 5)).grownBy w2 v.ownBlock := hgrow
  replace hat : v.ownBlock = some g ∨ g = (W1.alloc (.cells #[.int .u8 1] 5)).heap.size := hat
  have hg1 : Grew w w2 v (.slice (some ⟨g, 0, none⟩) (l.length + 1) cap) := hg0.trans ((Grew.alloc _ _ _).trans (Grew.lies hgrow hat))
  have hc2 : w2.cell? ⟨w.heap.size, 1, none⟩ = some (.int .i64 (n : Int)) := (hgrow.cell_far _ (by simp; omega) (fun e => hne e.symm)).trans hc1
  refine hK _ _ hc2 ?_
  clear hK K
  try simp only [Act.put, List.setIfInBounds_toArray, List.set_cons_zero, List.set_cons_succ]
  refine wpOrd_step rfl (fun K hK => ⟨by rfl, ?_⟩)
  go_simp
  go_at_call 99
  refine (HU.out _).mono ?_
  rintro e w3 ⟨rfl, rfl⟩
  refine hK _ _ hc2 ?_
  clear hK K
  try simp only [Act.put, List.setIfInBounds_toArray, List.set_cons_zero, List.set_cons_succ]
  refine wpOrd_nil ?_
  simp only [List.drop_succ_cons, List.drop_zero]
  have hown3 : ownB w3 (.slice (some ⟨g, 0, none⟩) (l.length + 1) cap) (l ++ [1#8]) := ownB_snoc hown2 rfl
  go_wp2_with (go_at_call 98; (with_reducible refine (numeral_any _ _ m hm2 _ hown3 (by simp; omega)).mono ?_); rintro e w4 ⟨v', rfl, ho, hg⟩)
  go_ret
  refine ⟨v', rfl, ?_, hg1.trans hg⟩
  rw [List.append_assoc] at ho
  exact ho
end Go.Proofs.YtaheibbbdglcmaaDoor

set_option linter.unusedSimpArgs false
set_option linter.unusedVariables false
namespace Sha
def encI1 (n : Int) : List B := 1#8 :: numeral (2 * n.toNat)
def encHd (n : Nat) : List B := 3#8 :: numeral n
/-- the encoding of a list of integers -/
def encL (l : List Int) : List B := encHd l.length ++ l.flatMap encI1
def smallI (l : List Int) : Prop := ∀ i, i < l.length → 0 ≤ l.getD i default ∧ l.getD i default < 4611686018427387904
theorem encI1_length {n : Int} (h : n < 4611686018427387904) : (encI1 n).length ≤ 10 := by
  unfold encI1
  have := numeral_length 8 (2 * n.toNat) (by omega)
  simp; omega
theorem encHd_length {n : Nat} (h : n < 4611686018427387904) : (encHd n).length ≤ 10 := by
  unfold encHd
  have := numeral_length 8 n (by omega)
  simp; omega
theorem take_snocJ {l : List Int} {k : Nat} (h : k < l.length) : (l.take (k + 1)).flatMap encI1 = (l.take k).flatMap encI1 ++ encI1 (l.getD k default) := by
  rw [List.take_add_one, List.flatMap_append, List.getElem?_eq_getElem h, List.getD_eq_getElem?_getD, List.getElem?_eq_getElem h]
  simp
theorem flat_length {l : List Int} (h : smallI l) : ∀ k, k ≤ l.length → ((l.take k).flatMap encI1).length ≤ 10 * k
  | 0, _ => by simp
  | k + 1, hk => by
    rw [take_snocJ (by omega), List.length_append]
    have h1 := flat_length h k (by omega)
    have h2 := encI1_length (h k (by omega)).2
    omega
end Sha
namespace Go.Proofs.YtaheibbbdglcmaaDoor
open Go.RowKit Fk Sha
theorem lt_of_lt_of_le' {a b c : Nat} (h : a < b) (k : b ≤ c) : a < c := Nat.lt_of_lt_of_le h k
theorem Wtr.below {w w' : World} {b : Nat} (h : Wtr w b) (hg : Below w.heap.size w w') : Wtr w' b := ⟨h.tab.below hg h.tab.lt, h.var.below hg h.var.lt⟩
theorem Grew.nil_below {w w' : World} {v' : Value} (h : Grew w w' (.slice none 0 0) v') : Below w.heap.size w w' := h.below (Nat.le_refl _) (fun k e => by cases e)
set_option maxRecDepth 100000 in
set_option maxHeartbeats 4000000 in
theorem write_list (l : List Int) (A : Option Addr) (c b : Nat) (w : World) (h : SlV w w.heap.size (.slice A l.length c) l) (hs : smallI l) (hl : l.length ≤ 1000) (hW : Wtr w b) :
    Calls Tryd.prog 101 #[.slice none 0 0, listV A l.length c, .pointer (some ⟨b + 1, 0, none⟩)] w fun e w' => ∃ v', e = .returned v' ∧ ownB w' v' (encL l) ∧ Below w.heap.size w w' := by
  obtain ⟨i0, hi, hz0, hz1, hz2⟩ := info_parts infoB4
  have HS := Lib.hid h
  have HN := Lib.hid hs
  have HW := Lib.hid hW
  have hwz := hW.var.lt
  have HE := Lib.hid (flat_length hs)
  clear h hs hW
  have hB0 := below_alloc' w (.cells #[.int .i64 3, .int .i64 0, .string ⟨#[]⟩, .slice A l.length c] 104)
  have hc : (w.alloc (.cells #[.int .i64 3, .int .i64 0, .string ⟨#[]⟩, .slice A l.length c] 104)).cell? ⟨w.heap.size, 3, none⟩ = some (.slice A l.length c) := by simp
  have hz : w.heap.size < (w.alloc (.cells #[.int .i64 3, .int .i64 0, .string ⟨#[]⟩, .slice A l.length c] 104)).heap.size := by simp
  go_enter Tryd.func101, Tryd.ntmps101
  go_wp2_with fail
  generalize w.alloc (.cells #[.int .i64 3, .int .i64 0, .string ⟨#[]⟩, .slice A l.length c] 104) = W at *
  refine wp_region_ord 7 [(1, 0), (1, 3), (1, 4), (1, 5), (1, 6), (2, 1), (2, 2)] (fun w' => w'.cell? ⟨w.heap.size, 3, none⟩ = some (.slice A l.length c)) (by kernel_rfl) (by kernel_rfl) (fun _ _ d _ _ h => by cases d <;> exact h) hc ?_
  replace hB0 : Below w.heap.size w W.drew := hB0.drew
  replace hc : W.drew.cell? ⟨w.heap.size, 3, none⟩ = some (.slice A l.length c) := hc
  replace hz : w.heap.size < W.drew.heap.size := hz
  generalize W.drew = W1 at *
  iterate 4
    refine wpOrd_take (v := ?_) rfl (by rfl) (fun w hSw => ?_) ?_
    rotate_left 1
    · go_simp
      with_reducible rfl
    simp only [Act.put, List.setIfInBounds_toArray, List.set_cons_zero, List.set_cons_succ]
  refine wpOrd_take (v := .int .u64 (l.length : Int)) rfl (by rfl) (fun w hSw => ?_) ?_
  · go_simp
    rw [IntKind.wrap_u64]; omega
  simp only [Act.put, List.setIfInBounds_toArray, List.set_cons_zero, List.set_cons_succ]
  refine wpOrd_step rfl (fun K hK => ⟨by rfl, ?_⟩)
  go_simp
  have hc1 : (W1.alloc (.cells #[.int .u8 3] 5)).cell? ⟨w.heap.size, 3, none⟩ = some (.slice A l.length c) := (World.cell?_alloc_past _ _ _ hz).trans hc
  refine hK _ _ hc1 ?_
  clear hK K
  try simp only [Act.put, List.setIfInBounds_toArray, List.set_cons_zero, List.set_cons_succ]
  refine wpOrd_step rfl (fun K hK => ⟨by rfl, ?_⟩)
  refine wp_append_lies _ _ _ 22 rfl 0 5 i0 (.int .u8 0) 1 1 Tryd.underlying22 hi hz0 hz1 hz2 rfl (by decide) _ _ _ rfl (World.ownsRow_nil _ _ _ _) ⟨W1.heap.size, 0, none⟩ 1 1 [.int .u8 3] rfl rfl (cell_one_newB _ _ _) (by simp [Value.oneCell']) (by decide) (by unfold maxLen; omega) (by omega) (Nat.zero_le _) _ rfl ?_
  intro g cap w2 hown2 hgrow hat hlt
  replace hgrow : (W1.alloc (.cells #[.int .u8 3] 5)).grownBy w2 (Value.slice none 0 0).ownBlock := hgrow
  replace hat : (Value.slice none 0 0).ownBlock = some g ∨ g = (W1.alloc (.cells #[.int .u8 3] 5)).heap.size := hat
  have hg1 : Grew W1 w2 (.slice none 0 0) (.slice (some ⟨g, 0, none⟩) (0 + 1) cap) := (Grew.alloc _ _ _).trans (Grew.lies hgrow hat)
  have hc2 : w2.cell? ⟨w.heap.size, 3, none⟩ = some (.slice A l.length c) := hg1.cell hc hz (fun e => by cases e)
  refine hK _ _ hc2 ?_
  clear hK K
  try simp only [Act.put, List.setIfInBounds_toArray, List.set_cons_zero, List.set_cons_succ]
  refine wpOrd_nil ?_
  simp only [List.drop_succ_cons, List.drop_zero]
  have hown3 : ownB w2 (.slice (some ⟨g, 0, none⟩) (0 + 1) cap) [3#8] := hown2
  go_wp2_with (go_at_call 98; (with_reducible refine (numeral_any _ _ l.length (by omega) _ hown3 (by simp)).mono ?_); rintro e w4 ⟨v', rfl, ho, hg⟩; have hc4 : w4.cell? ⟨w.heap.size, 3, none⟩ = some (.slice A l.length c) := (hg1.trans hg).cell hc hz (fun e => by cases e))
  have hb4 : Below w.heap.size w w4 := hB0.trans (((hg1.trans hg).nil_below).mono hB0.size)
  have ho4 : ownB w4 v' (encHd l.length ++ (l.take 0).flatMap encI1) := by simpa [encHd] using ho
  have hlo4 : ∀ k, v'.ownBlock = some k → w.heap.size ≤ k := by
    intro k hk
    have h1 := hB0.size
    rcases (hg1.trans hg).o with e | ⟨i, e, hi⟩
    · rw [e] at hk; cases hk
    · rw [e] at hk; injection hk with hk; omega
  clear hc hz hc1 hown2 hlt hgrow hat hg1 hc2 hown3 ho hg hB0
  have hz4 := hb4.size
  go_loopg [0, 19] l.length (fun gh bv' iv wr => ∃ k : Nat, iv = .int .i64 k ∧ k + gh = l.length ∧ Below w.heap.size w wr ∧ Hid (∀ k, bv'.ownBlock = some k → w.heap.size ≤ k) ∧ ownB wr bv' (encHd l.length ++ (l.take k).flatMap encI1))
  case atStart => exact ⟨0, rfl, by omega, hb4, hlo4, ho4⟩
  case round =>
    clear ho4
    obtain ⟨k, rfl, hkg, hBr, HLO, hown⟩ := hrel
    have hzr := hBr.size
    by_cases hlt : k < l.length
    · obtain ⟨xb, o, c', hv, hb, d0, d1, d2, d3⟩ := SlV.get (HS.out.below hBr) hlt
      cases hv
      have hnn := HN.out k hlt
      have hsn := take_snocJ hlt
      have hlen := HE.out k (by omega)
      have hhd := encHd_length (n := l.length) (by omega)
      have hfl : (encHd l.length ++ (l.take k).flatMap encI1).length ≤ 1000000000 := by rw [List.length_append]; omega
      obtain ⟨x, hx⟩ : ∃ x, l.getD k default = x := ⟨_, rfl⟩
      rw [hx] at d1 hnn hsn
      obtain ⟨m, rfl⟩ : ∃ m : Nat, x = (m : Int) := ⟨x.toNat, by omega⟩
      have s1 : (0 : Int) ≤ k := by omega
      have s2 : (k : Int) < l.length := by omega
      have hbz : xb < wr.heap.size := by omega
      have hw := HW.out.below hBr
      clear hx hlen hhd
      obtain ⟨acc, hacc⟩ : ∃ acc, encHd l.length ++ (l.take k).flatMap encI1 = acc := ⟨_, rfl⟩
      have HSN := Lib.hid hsn
      have HAC := Lib.hid hacc
      rw [hacc] at hown hfl
      clear hsn hacc
      go_upto_region 5 with fail
      have r7 := Row.new wr 104 [.int .i64 1, .int .i64 (m : Int), .string ⟨#[]⟩, .slice none 0 0]
      have hwA : Wtr (wr.alloc (.cells #[.int .i64 1, .int .i64 (m : Int), .string ⟨#[]⟩, .slice none 0 0] 104)) b := hw.below (below_alloc' _ _)
      have hownA := hown.alloc (.cells #[.int .i64 1, .int .i64 (m : Int), .string ⟨#[]⟩, .slice none 0 0] 104)
      have hBA := hBr.alloc hzr (.cells #[.int .i64 1, .int .i64 (m : Int), .string ⟨#[]⟩, .slice none 0 0] 104)
      obtain ⟨W5, hW5⟩ : ∃ W5, wr.alloc (.cells #[.int .i64 1, .int .i64 (m : Int), .string ⟨#[]⟩, .slice none 0 0] 104) = W5 := ⟨_, rfl⟩
      replace r7 : Row W5 wr.heap.size 104 [.int .i64 1, .int .i64 (m : Int), .string ⟨#[]⟩, .slice none 0 0] := hW5 ▸ r7
      rw [hW5] at hwA hownA hBA ⊢
      clear hW5 hw d0 d1 d2 d3
      obtain ⟨e0, e1, e2, e3⟩ := st4 hwA.tab
      have ev := st1c hwA.var
      obtain ⟨k0, k1, k2, k3⟩ := st4 r7
      have t0 := hwA.tab.lt
      have t1 := hwA.var.lt
      have t2 := r7.lt
      replace hownA : ownB W5.drew u0 acc := World.ownsRow.kept hownA (grown_below' (Below.refl _ _).drew none) (Classical.em _)
      have hlow : ∀ k, u0.ownBlock = some k → w.heap.size ≤ k := HLO.out
      have HWI := Lib.hid (write_int acc u0 m (by omega) _ hownA hfl)
      have HBA := Lib.hid hBA.drew
      clear hownA hBA hwA r7
      go_still_tail 9, (by kernel_rfl)
      repeat still_step
      try refine wpStill_nil ?_
      change wpList _ _ _ _ _ W5.drew
      go_wp2_with (go_at_call 97; (with_reducible refine HWI.out.mono ?_); rintro e w5 ⟨v5, rfl, ho5, hg5⟩)
      go_roundg (gk - 1)
      case measure => omega
      case rel =>
        refine ⟨k + 1, by first | rfl | go_num, by omega, ?_, ?_, ?_⟩
        · exact HBA.out.trans (hg5.below HBA.out.size hlow)
        · intro j hj
          rcases hg5.o with e | ⟨i, e, hi⟩
          · rw [e] at hj; exact hlow j hj
          · rw [e] at hj; injection hj with hj; have := HBA.out.size; omega
        · rw [HSN.out, ← List.append_assoc, HAC.out]
          exact ho5
    · obtain rfl : k = l.length := by omega
      rw [List.take_length] at hown
      go_wp2_with fail
      go_ret
      exact ⟨_, rfl, hown, hBr⟩
end Go.Proofs.YtaheibbbdglcmaaDoor

set_option linter.unusedSimpArgs false
set_option linter.unusedVariables false
namespace Go.Proofs.YtaheibbbdglcmaaDoor
open Go.RowKit Fk Sha
set_option maxRecDepth 100000 in
set_option maxHeartbeats 4000000 in
theorem encode_list (l : List Int) (A : Option Addr) (c : Nat) (w : World) (h : SlV w w.heap.size (.slice A l.length c) l) (hs : smallI l) (hp : 1 ≤ l.length) (hl : l.length ≤ 1000) :
    Calls Tryd.prog 71 #[listV A l.length c] w fun e w' => ∃ v, e = .returned (.tuple #[v, .int .i64 0]) ∧ ownB w' v (encL l) ∧ Below w.heap.size w w' := by
  have HS := Lib.hid h
  have HN := Lib.hid hs
  clear h hs
  have hB0 := below_alloc' w (.cells #[.int .i64 3, .int .i64 0, .string ⟨#[]⟩, .slice A l.length c] 104)
  have r0 := Row.new w 104 [.int .i64 3, .int .i64 0, .string ⟨#[]⟩, .slice A l.length c]
  have hz : w.heap.size < (w.alloc (.cells #[.int .i64 3, .int .i64 0, .string ⟨#[]⟩, .slice A l.length c] 104)).heap.size := by simp
  go_enter Tryd.func71, Tryd.ntmps71
  obtain ⟨W, hW⟩ : ∃ W, w.alloc (.cells #[.int .i64 3, .int .i64 0, .string ⟨#[]⟩, .slice A l.length c] 104) = W := ⟨_, rfl⟩
  replace r0 : Row W w.heap.size 104 [.int .i64 3, .int .i64 0, .string ⟨#[]⟩, .slice A l.length c] := hW ▸ r0
  rw [hW] at hB0 hz
  have hck := ccheck_list l A c W ((HS.out.below hB0).mono hB0.size) hp
  have HCK := Lib.hid hck
  clear hck
  go_upto_region 1 with fail
  clear hW
  obtain ⟨k0, k1, k2, k3⟩ := st4 r0
  go_upto_region 4 with (go_at_call 87; (with_reducible refine HCK.out.mono ?_); rintro e w1 ⟨rfl, hb⟩; replace r0 := r0.below hb hz; replace hB0 := hB0.trans (hb.mono hB0.size); replace hz := lt_of_lt_of_le' hz hb.size; clear k0 k1 k2 k3; obtain ⟨k0, k1, k2, k3⟩ := st4 r0)
  refine wp_region_ord 8 [(1, 1), (1, 2), (1, 7), (2, 0), (2, 3), (2, 4), (2, 5), (2, 6)] (fun w' => w'.cell? ⟨w.heap.size, 0, none⟩ = some (.int .i64 3) ∧ w'.cell? ⟨w.heap.size, 1, none⟩ = some (.int .i64 0) ∧ w'.cell? ⟨w.heap.size, 2, none⟩ = some (.string ⟨#[]⟩) ∧ w'.cell? ⟨w.heap.size, 3, none⟩ = some (.slice A l.length c)) (by kernel_rfl) (by kernel_rfl) (fun _ _ d _ _ h => by cases d <;> exact h) ⟨k0, k1, k2, k3⟩ ?_
  replace hB0 : Below w.heap.size w w1.drew := hB0.drew
  replace r0 : Row w1.drew w.heap.size 104 [.int .i64 3, .int .i64 0, .string ⟨#[]⟩, .slice A l.length c] := r0
  replace hz : w.heap.size < w1.drew.heap.size := hz
  clear k0 k1 k2 k3
  generalize w1.drew = W1 at *
  iterate 3
    refine wpOrd_take (v := ?_) rfl (by rfl) (fun w hSw => ?_) ?_
    rotate_left 1
    · obtain ⟨k0, k1, k2, k3⟩ := hSw
      go_simp
      with_reducible rfl
    simp only [Act.put, List.setIfInBounds_toArray, List.set_cons_zero, List.set_cons_succ]
  refine wpOrd_step rfl (fun K hK => ⟨by rfl, ?_⟩)
  go_simp
  go_at_call 88
  refine (newWriter_any _).mono ?_
  rintro e w2 ⟨rfl, hwt, hb⟩
  replace r0 := r0.below hb hz
  replace hB0 := hB0.trans (hb.mono hB0.size)
  have k := st4 r0
  refine hK _ _ k ?_
  clear hK K
  obtain ⟨e0, e1, e2, e3⟩ := st4 hwt.tab
  iterate 4
    refine wpOrd_step rfl (fun K hK => ⟨by rfl, ?_⟩)
    go_simp
    refine hK _ _ k ?_
    clear hK K
  refine wpOrd_nil ?_
  simp only [List.drop_succ_cons, List.drop_zero]
  have hS2 := (HS.out.below hB0).mono hB0.size
  have hwl := write_list l A c W1.heap.size w2 hS2 HN.out hl hwt
  have HWL := Lib.hid hwl
  clear hwl hS2 k e0 e1 e2 e3
  go_wp2_with (go_at_call 101; (with_reducible refine HWL.out.mono ?_); rintro e w3 ⟨v', rfl, ho, hb3⟩)
  go_ret2
  exact ⟨v', rfl, ho, hB0.trans (hb3.mono hB0.size)⟩
end Go.Proofs.YtaheibbbdglcmaaDoor

set_option linter.unusedSimpArgs false
set_option linter.unusedVariables false
namespace Go.Proofs.YtaheibbbdglcmaaDoor
open Go.RowKit Fk Sha
theorem own_slG {α : Type} [Inhabited α] {m : Nat} {enc : α → List Value} {w : World} {base n : Nat} {e : TypeId} {v : Value} {l : List α} (h : w.ownsRow base e m v n (l.flatMap enc)) (hm : ∀ a, (enc a).length = m) (hn : n = l.length) (hl : l.length ≤ 9223372036854775807) :
    SlG m enc w w.heap.size v l := by
  subst hn
  rcases h.2 with ⟨rfl, h0⟩ | ⟨g, cap, cur, rfl, hb, hg, hnc, hc, hcs, ht⟩
  · obtain rfl : l = [] := List.eq_nil_of_length_eq_zero h0
    exact SlG.nil_ _ _
  · have hr : Row w g e cur.toList := by show w.heap[g]? = _; rw [hg]
    refine ⟨hl, _, _, rfl, fun hp => ⟨g, 0, rfl, hr.lt, ?_⟩⟩
    have hrow : Row (w.alloc (.cells (l.flatMap enc).toArray e)) w.heap.size e (l.flatMap enc) := Row.new w e _
    obtain ⟨_, A, c, hv, hE⟩ := Row.sl (c := 0) hrow hm hl (B0 := w.heap.size + 1) (by omega)
    obtain ⟨b, off, hA, _, hE⟩ := hE hp
    injection hv with hv1 hv2 hv3
    rw [hA] at hv1
    injection hv1 with hv1
    injection hv1 with hb' ho'
    intro i hi j hj
    have h2 := hE i hi j hj
    rw [← hb', ← ho', hrow.cell] at h2
    rw [hr.cell, ← h2, ← ht, List.getElem?_take_of_lt]
    have : (i + 1) * m ≤ l.length * m := Nat.mul_le_mul_right m (by omega)
    rw [Nat.succ_mul] at this
    omega
theorem infoV4 : (Tryd.prog.info? 104).map (fun i => (i.zero, i.size, i.bytes)) = some (some (.agg #[.int .i64 0, .int .i64 0, .string ⟨#[]⟩, .slice none 0 0]), 4, 56) := by kernel_rfl
theorem cell_four (w : World) (a b c d : Value) (t : TypeId) : ∀ j u, [a, b, c, d][j]? = some u → (w.alloc (.cells #[a, b, c, d] t)).cell? ((⟨w.heap.size, 0, none⟩ : Addr).add j) = some u := by
  intro j u hj
  match j, hj with
  | 0, hj => simp at hj; subst hj; simp [Addr.add]
  | 1, hj => simp at hj; subst hj; simp [Addr.add]
  | 2, hj => simp at hj; subst hj; simp [Addr.add]
  | 3, hj => simp at hj; subst hj; simp [Addr.add]
  | (j + 4), hj => simp at hj
theorem take_flatV {l : List Int} {k : Nat} (h : k < l.length) : (l.take (k + 1)).flatMap encV = (l.take k).flatMap encV ++ [.int .i64 1, .int .i64 (l.getD k default), .string ⟨#[]⟩, .slice none 0 0] := by
  rw [List.take_add_one, List.flatMap_append, List.getElem?_eq_getElem h, List.getD_eq_getElem?_getD, List.getElem?_eq_getElem h]
  simp [encV]
set_option maxRecDepth 100000 in
set_option maxHeartbeats 4000000 in
theorem text_any (l : List Int) (v : Value) (w : World) (h : SlI w w.heap.size v l) (hs : smallI l) (hp : 1 ≤ l.length) (hl : l.length ≤ 1000) :
    Calls Tryd.prog 41 #[v] w fun e w' => ∃ v', e = .returned v' ∧ ownB w' v' (encL l) ∧ Below w.heap.size w w' := by
  obtain ⟨i0, hi, hz0, hz1, hz2⟩ := info_parts infoV4
  have HS := Lib.hid h
  have HN := Lib.hid hs
  obtain ⟨_, A, c, rfl, _⟩ := h
  clear hs
  have hB0 := below_alloc' w (.cells #[.int .i64 3, .int .i64 0, .string ⟨#[]⟩, .slice none 0 0] 104)
  have r0 := Row.new w 104 [.int .i64 3, .int .i64 0, .string ⟨#[]⟩, .slice none 0 0]
  have hz : w.heap.size + 1 ≤ (w.alloc (.cells #[.int .i64 3, .int .i64 0, .string ⟨#[]⟩, .slice none 0 0] 104)).heap.size := by simp
  go_enter Tryd.func41, Tryd.ntmps41
  go_wp2_with fail
  go_loopg [11] l.length (fun gh iv wr => ∃ (k : Nat) (x : Value), iv = .int .i64 k ∧ k + gh = l.length ∧ Below w.heap.size w wr ∧ w.heap.size + 1 ≤ wr.heap.size ∧ Row wr w.heap.size 104 [.int .i64 3, .int .i64 0, .string ⟨#[]⟩, x] ∧ wr.ownsRow (w.heap.size + 1) 104 4 x k ((l.take k).flatMap encV))
  case atStart => exact ⟨0, _, rfl, by omega, hB0, hz, r0, World.ownsRow_nil _ _ _ _⟩
  case round =>
    clear hB0 r0 hz
    obtain ⟨k, x, rfl, hkg, hBr, hz, hrow, hown⟩ := hrel
    obtain ⟨k0, k1, k2, k3⟩ := st4 hrow
    have y3 := Row.frozen hrow 3
    have hzz := hrow.lt
    by_cases hlt : k < l.length
    · obtain ⟨_, A', c', hv, hE⟩ := HS.out.below hBr
      obtain ⟨b, off, rfl, hbb, hE⟩ := hE (by omega)
      cases hv
      have d1 := hE.int hlt
      have hsn := take_flatV hlt
      obtain ⟨n, hn⟩ : ∃ n, l.getD k default = n := ⟨_, rfl⟩
      rw [hn] at d1 hsn
      have HSN := Lib.hid hsn
      have s1 : (0 : Int) ≤ k := by omega
      have s2 : (k : Int) < l.length := by omega
      clear hn hsn hE
      go_wp2_with (at_builtin; refine wpList_append_lies _ rfl _ _ 102 rfl (w.heap.size + 1) 104 i0 (.agg #[.int .i64 0, .int .i64 0, .string ⟨#[]⟩, .slice none 0 0]) 4 56 Tryd.underlying102 hi hz0 hz1 hz2 rfl (by decide) _ _ _ rfl (hown.alloc _) ⟨wr.heap.size, 0, none⟩ 1 1 [.int .i64 1, .int .i64 n, .string ⟨#[]⟩, .slice none 0 0] rfl rfl (cell_four _ _ _ _ _ _) (by simp [Value.oneCell']) (by decide) (by unfold maxLen; omega) (by omega) (by simp; omega) _ rfl ?_; intro g cap w2 hown2 hgrow hat hlt2; have hown1 := hown; have hrow2 : Row w2 w.heap.size 104 [.int .i64 3, .int .i64 0, .string ⟨#[]⟩, x] := Row.keep (hrow.alloc _) (hgrow.block _ (by simp; omega) (fun e => by have := (hown1.lt _ e.symm).1; omega)); clear k0 k1 k2 k3 y3; obtain ⟨k0, k1, k2, k3⟩ := st4 hrow2; have y3 := Row.frozen hrow2 3; have hzz2 := hrow2.lt)
      go_roundg (gk - 1)
      case measure => omega
      case rel =>
        refine ⟨k + 1, .slice (some ⟨g, 0, none⟩) (k + 1) cap, by first | rfl | go_num, by omega, ?_, ?_, Row.store hrow2 3 _, ?_⟩
        · exact (((hBr.alloc hBr.size _).grown hgrow (by simp; omega) (fun r e => by have := (hown1.lt _ e).1; omega))).setCell (p := ⟨w.heap.size, 3, none⟩) (Nat.le_refl _) _
        · simp [World.setCell]; omega
        · rw [HSN.out]
          exact hown2.kept (row := some w.heap.size) ⟨rfl, rfl, rfl, by simp [World.setCell], fun j _ hn => Below.heap_setCell _ _ _ j (fun e => hn (by rw [e]))⟩ (.inr (fun e => by have := (hown2.lt _ e).1; omega))
    · obtain rfl : k = l.length := by omega
      rw [List.take_length] at hown
      have hV : SlV wr wr.heap.size x l := own_slG hown (fun _ => rfl) rfl (by omega)
      obtain ⟨_, A2, c2, rfl, _⟩ := id hV
      have he := encode_list l A2 c2 wr hV HN.out hp hl
      have HE := Lib.hid he
      clear he hV hown
      go_wp2_with (go_at_call 71; (with_reducible refine HE.out.mono ?_); rintro e w3 ⟨v', rfl, ho, hb3⟩)
      go_ret
      exact ⟨v', rfl, ho, hBr.trans (hb3.mono hBr.size)⟩
end Go.Proofs.YtaheibbbdglcmaaDoor

namespace Go.Proofs.YtaheibbbdglcmaaDoor
open Go.RowKit Fk Sha
/-! A number from a hash. -/
/-- the k-th byte, the first one without its highest bit -/
def hb (d : List B) (k : Nat) : Nat := if k = 0 then (d.getD 0 0).toNat % 128 else (d.getD k 0).toNat
def hnum (d : List B) : Nat → Nat
  | 0 => 0
  | k + 1 => hnum d k * 256 + hb d k
def hashN (d : List B) : Int := ((hnum d 8 % 1073741789 : Nat) : Int)
theorem hb_lt (d : List B) (k : Nat) : hb d k < 256 := by
  unfold hb; split
  · omega
  · exact (d.getD k 0).isLt
theorem hnum_lt (d : List B) : ∀ k, hnum d (k + 1) < 128 * 256 ^ k
  | 0 => by simp [hnum, hb]; omega
  | k + 1 => by
    have := hnum_lt d k
    have h2 := hb_lt d (k + 1)
    show hnum d (k + 1) * 256 + hb d (k + 1) < _
    rw [Nat.pow_succ]
    omega
theorem hnum_bd (d : List B) {k : Nat} (h : k ≤ 8) : hnum d k < 9223372036854775808 ∧ (k < 8 → hnum d k < 36028797018963968) := by
  cases k with
  | zero => exact ⟨by simp [hnum], fun _ => by simp [hnum]⟩
  | succ k =>
    have h1 := hnum_lt d k
    rcases (show k = 0 ∨ k = 1 ∨ k = 2 ∨ k = 3 ∨ k = 4 ∨ k = 5 ∨ k = 6 ∨ k = 7 by omega) with rfl | rfl | rfl | rfl | rfl | rfl | rfl | rfl <;> (simp only [Nat.reducePow, Nat.reduceMul] at h1; exact ⟨by omega, fun _ => by omega⟩)
theorem wraps_i64 (n : Int) (h₀ : 0 ≤ n) (h₁ : n < 2 ^ 63) : IntKind.i64.wrap n = n := by
  rw [IntKind.wrap_i64]; have : (2 : Int) ^ 63 = 9223372036854775808 := by decide
  omega
theorem or_byte (n c : Int) (h0 : 0 ≤ n) (h1 : n < 36028797018963968) (h2 : 0 ≤ c) (h3 : c < 256) : bits .or .i64 (n * 256) c = n * 256 + c := by
  have e63 : (2 : Int) ^ 63 = 9223372036854775808 := by decide
  have e8 : (2 : Int) ^ 8 = 256 := by decide
  exact bits_join .i64 63 (by decide) wraps_i64 8 (n * 256) c (by omega) (by rw [e8]; omega) (by rw [e63]; omega) h2 (by rw [e8]; exact h3) (by rw [e63]; omega)
theorem and_127 (x : Int) (h0 : 0 ≤ x) (h1 : x < 256) : bits .and .u8 x 127 = x % 128 := bits_mask .u8 8 (by decide) wraps_u8 7 (by decide) x h0 h1
set_option maxRecDepth 100000 in
set_option maxHeartbeats 2000000 in
theorem hash_any (s : ByteArray) (l : List B) (v : Value) (w : World) (h : SlB w w.heap.size v l) (hc : capB v) (hl : l.length ≤ 1099511627000) (hs : s.size ≤ 1099511627000) (hT : Tab w) (hz : 1 < w.heap.size ∧ 0 < w.heap.size) :
    Calls Tryd.prog 15 #[.string s, v] w fun e w' => e = .returned (.int .i64 (hashN (tagged (sb s) l))) ∧ Below w.heap.size w w' := by
  have ht := tagged_any s l v w h hc hl hs hT hz
  have hlen := tagged_length (sb s) l
  obtain ⟨D, hD⟩ : ∃ D, tagged (sb s) l = D := ⟨_, rfl⟩
  rw [hD] at ht hlen ⊢
  have hst := fun W => store32 D hlen W
  have HT := Lib.hid ht
  have HL := Lib.hid hlen
  clear ht hD h hc hT hlen
  go_enter Tryd.func15, Tryd.ntmps15
  go_upto_region 2 with (go_at_call 17; (with_reducible refine HT.out.mono ?_); rintro e W1 ⟨rfl, hb1⟩)
  have hR2 : Row (W1.alloc (.cells (D.map bv).toArray 30)) W1.heap.size 30 (D.map bv) := Row.new W1 _ _
  have hB2 : Below w.heap.size w (W1.alloc (.cells (D.map bv).toArray 30)) := hb1.alloc hb1.size _
  have hzg : w.heap.size ≤ W1.heap.size := hb1.size
  generalize W1.alloc (.cells (D.map bv).toArray 30) = W2 at *
  generalize W1.heap.size = g at *
  have d0 : W2.cell? ⟨g, 0, none⟩ = some (.int .u8 (bn (D.getD 0 0))) := (Row.cell hR2 0).trans (by rw [List.getElem?_map, List.getD_eq_getElem?_getD, List.getElem?_eq_getElem (by rw [HL.out]; omega)]; rfl)
  have f0 := Row.frozen hR2 0
  obtain ⟨b0, b1⟩ := bn_bd (D.getD 0 0)
  have hand := and_127 _ b0 b1
  have hR3 := Row.store hR2 0 (.int .u8 (bn (D.getD 0 0) % 128))
  have hB3 := hB2.setCell (p := ⟨g, 0, none⟩) hzg (.int .u8 (bn (D.getD 0 0) % 128))
  have hcell : ∀ k, k < 8 → ((D.map bv).set 0 (.int .u8 (bn (D.getD 0 0) % 128)))[k]? = some (.int .u8 (hb D k : Int)) := by
    intro k hk
    rw [List.getElem?_set]
    by_cases e : 0 = k
    · subst e
      rw [if_pos rfl, if_pos (by rw [List.length_map, HL.out]; omega)]
      unfold hb bn; rw [if_pos rfl]; rfl
    · rw [if_neg e, List.getElem?_map, List.getElem?_eq_getElem (by rw [HL.out]; omega)]
      unfold hb; rw [if_neg (Ne.symm e), List.getD_eq_getElem?_getD, List.getElem?_eq_getElem (by rw [HL.out]; omega)]; rfl
  have HC := Lib.hid hcell
  have H3 := Lib.hid hR3
  have HB := Lib.hid hB3
  generalize bn (D.getD 0 0) = x at *
  clear hR2 hB2 hcell hR3 hB3 hb1 HT hst
  go_wp2_with fail
  clear d0 f0 b0 b1 hand
  go_loopg [4, 14] 8 (fun gk n i wr => W2.setCell ⟨g, 0, none⟩ (.int .u8 (x % 128)) = wr ∧ ∃ k : Nat, i = .int .i64 k ∧ k + gk = 8 ∧ n = .int .i64 (hnum D k : Int))
  case atStart => exact ⟨rfl, 0, rfl, rfl, rfl⟩
  case round =>
    obtain ⟨rfl, k, rfl, hk, rfl⟩ := hrel
    by_cases hlt : k < 8
    · have dk := (Row.cell H3.out k).trans (HC.out k hlt)
      obtain ⟨q0, q1⟩ := hnum_bd D (k := k) (by omega)
      have q1 := q1 hlt
      have q2 := hb_lt D k
      have ho := or_byte (hnum D k) (hb D k) (by omega) (by omega) (by omega) (by omega)
      have hn : (hnum D (k + 1) : Int) = (hnum D k : Int) * 256 + (hb D k : Int) := by show ((hnum D k * 256 + hb D k : Nat) : Int) = _; omega
      have HN := Lib.hid hn
      clear hn q0
      have hi : (0 : Int) ≤ (hnum D k : Int) := by omega
      have hj : (hnum D k : Int) < 36028797018963968 := by omega
      have hj2 : (0 : Int) ≤ (hb D k : Int) := by omega
      have hj3 : (hb D k : Int) < 256 := by omega
      generalize (hnum D k : Int) = n at *
      generalize (hb D k : Int) = c at *
      go_wp2_with fail
      go_roundg (gk - 1)
      case measure => omega
      case rel => exact ⟨rfl, k + 1, by go_num, by omega, by rw [HN.out]⟩
    · obtain rfl : k = 8 := by omega
      obtain ⟨q0, _⟩ := hnum_bd D (k := 8) (by omega)
      have hi : (0 : Int) ≤ (hnum D 8 : Int) := by omega
      go_wp2_with fail
      go_ret
      exact ⟨rfl, HB.out⟩
end Go.Proofs.YtaheibbbdglcmaaDoor

/-! Plain arithmetic: Gauss's lemma for odd moduli, reciprocity, powers modulo a prime. -/
namespace Fk

/-! ### permutations -/
theorem perm_of_subset : ∀ (l m : List Nat), l.Nodup → (∀ a ∈ l, a ∈ m) → m.length ≤ l.length → l.Perm m
  | [], m, _, _, h => by
    have : m = [] := List.eq_nil_of_length_eq_zero (by simpa using h)
    subst this; exact List.Perm.nil
  | a :: t, m, hn, hs, h => by
    have ha : a ∈ m := hs a (by simp)
    have hp := List.perm_cons_erase ha
    rw [List.nodup_cons] at hn
    have ht : t.Perm (m.erase a) := by
      refine perm_of_subset t (m.erase a) hn.2 (fun b hb => ?_) ?_
      · have hne : b ≠ a := fun e => hn.1 (e ▸ hb)
        exact (List.mem_erase_of_ne hne).2 (hs b (by simp [hb]))
      · have := List.length_erase_of_mem ha
        simp at h; omega
    exact (ht.cons a).trans hp.symm

theorem perm_range_map (h : Nat) (f : Nat → Nat) (hf : ∀ k, k < h → f k < h) (hi : ∀ i j, i < h → j < h → f i = f j → i = j) :
    ((List.range h).map f).Perm (List.range h) := by
  refine perm_of_subset _ _ ?_ ?_ (by simp)
  · rw [List.Nodup, List.pairwise_map]
    have hn : (List.range h).Nodup := List.nodup_range
    rw [List.Nodup] at hn
    refine List.Pairwise.imp_of_mem ?_ hn
    intro a b ha hb hne he
    exact hne (hi a b (by simpa using ha) (by simpa using hb) he)
  · intro a ha
    obtain ⟨k, hk, rfl⟩ := List.mem_map.1 ha
    simpa using hf k (by simpa using hk)

/-! ### the count of Gauss -/
def mu (a n : Nat) : Nat := (List.range (n / 2)).countP fun k => decide (n / 2 < a * (k + 1) % n)
def jac (a n : Nat) : Bool := mu a n % 2 == 0
def sg (a n k : Nat) : Nat := if n / 2 < a * (k + 1) % n then n - a * (k + 1) % n - 1 else a * (k + 1) % n - 1

theorem res_ne {a n k : Nat} (hc : Nat.Coprime a n) (hk : k + 1 < n) : a * (k + 1) % n ≠ 0 := by
  intro h
  have hd : n ∣ a * (k + 1) := Nat.dvd_of_mod_eq_zero h
  have := Nat.Coprime.dvd_of_dvd_mul_left hc.symm hd
  have := Nat.le_of_dvd (by omega) this
  omega

theorem sg_lt {a n k : Nat} (ho : n % 2 = 1) (hc : Nat.Coprime a n) (hk : k < n / 2) : sg a n k < n / 2 := by
  have h0 := res_ne hc (show k + 1 < n by omega)
  have h1 := Nat.mod_lt (a * (k + 1)) (show 0 < n by omega)
  unfold sg
  split <;> omega

theorem sg_inj {a n : Nat} (ho : n % 2 = 1) (hc : Nat.Coprime a n) (i j : Nat) (hi : i < n / 2) (hj : j < n / 2) (h : sg a n i = sg a n j) : i = j := by
  have hi0 := res_ne hc (show i + 1 < n by omega)
  have hj0 := res_ne hc (show j + 1 < n by omega)
  have hi1 := Nat.mod_lt (a * (i + 1)) (show 0 < n by omega)
  have hj1 := Nat.mod_lt (a * (j + 1)) (show 0 < n by omega)
  have key : a * (i + 1) % n = a * (j + 1) % n ∨ a * (i + 1) % n + a * (j + 1) % n = n := by
    unfold sg at h
    split at h <;> split at h <;> omega
  rcases key with he | he
  · -- differences
    have wl : ∀ p q : Nat, p ≤ q → q < n / 2 → a * (p + 1) % n = a * (q + 1) % n → p = q := by
      intro p q hpq hq he
      have hd : n ∣ a * (q - p) := by
        have h2 : (a * (q + 1) - a * (p + 1)) % n = 0 := Nat.sub_mod_eq_zero_of_mod_eq he.symm
        have h3 : a * (q + 1) - a * (p + 1) = a * (q - p) := by rw [← Nat.mul_sub]; congr 1; omega
        rw [h3] at h2; exact Nat.dvd_of_mod_eq_zero h2
      have := Nat.Coprime.dvd_of_dvd_mul_left hc.symm hd
      rcases Nat.eq_zero_or_pos (q - p) with h0 | h0
      · omega
      · have := Nat.le_of_dvd h0 this; omega
    rcases Nat.le_total i j with hij | hij
    · exact wl i j hij hj he
    · exact (wl j i hij hi he.symm).symm
  · exfalso
    have h2 : (a * (i + 1) + a * (j + 1)) % n = 0 := by rw [Nat.add_mod, he, Nat.mod_self]
    have hd : n ∣ a * (i + j + 2) := by
      have e : a * (i + 1) + a * (j + 1) = a * (i + j + 2) := by rw [← Nat.mul_add]; congr 1; omega
      rw [e] at h2; exact Nat.dvd_of_mod_eq_zero h2
    have := Nat.Coprime.dvd_of_dvd_mul_left hc.symm hd
    have := Nat.le_of_dvd (by omega) this
    omega

theorem sg_perm {a n : Nat} (ho : n % 2 = 1) (hc : Nat.Coprime a n) : ((List.range (n / 2)).map (sg a n)).Perm (List.range (n / 2)) :=
  perm_range_map _ _ (fun _ hk => sg_lt ho hc hk) (fun i j hi hj h => sg_inj ho hc i j hi hj h)

theorem countP_xor (p q : Nat → Bool) : ∀ l : List Nat, (l.countP fun k => p k ^^ q k) % 2 = (l.countP p + l.countP q) % 2
  | [] => rfl
  | a :: t => by
    have ih := countP_xor p q t
    rw [List.countP_cons, List.countP_cons, List.countP_cons]
    cases p a <;> cases q a <;> simp <;> omega

theorem countP_congr' (p q : Nat → Bool) : ∀ l : List Nat, (∀ k ∈ l, p k = q k) → l.countP p = l.countP q
  | [], _ => rfl
  | a :: t, h => by
    rw [List.countP_cons, List.countP_cons, countP_congr' p q t (fun k hk => h k (by simp [hk])), h a (by simp)]

theorem neg_mul {a b n k : Nat} (ho : n % 2 = 1) (ha : Nat.Coprime a n) (hb : Nat.Coprime b n) (hk : k < n / 2) :
    decide (n / 2 < (a * b) * (k + 1) % n) = (decide (n / 2 < b * (k + 1) % n) ^^ decide (n / 2 < a * (sg b n k + 1) % n)) := by
  have h0 := res_ne hb (show k + 1 < n by omega)
  have h1 := Nat.mod_lt (b * (k + 1)) (show 0 < n by omega)
  have hab : Nat.Coprime (a * b) n := Nat.Coprime.mul_left ha hb
  have hr0 := res_ne hab (show k + 1 < n by omega)
  have hr1 := Nat.mod_lt (a * b * (k + 1)) (show 0 < n by omega)
  have e1 : a * b * (k + 1) % n = a * (b * (k + 1) % n) % n := by
    rw [Nat.mul_assoc, Nat.mul_mod, Nat.mul_mod a (b * (k + 1) % n), Nat.mod_mod]
  by_cases hs : n / 2 < b * (k + 1) % n
  · have es : sg b n k + 1 = n - b * (k + 1) % n := by unfold sg; rw [if_pos hs]; omega
    rw [es]
    generalize b * (k + 1) % n = r at *
    have e2 : (a * (n - r) + a * r) % n = 0 := by
      rw [← Nat.mul_add, Nat.sub_add_cancel (by omega)]; exact Nat.mul_mod_left a n
    rw [Nat.add_mod, ← e1] at e2
    have h3 := Nat.mod_lt (a * (n - r)) (show 0 < n by omega)
    generalize a * (n - r) % n = u at *
    generalize a * b * (k + 1) % n = v at *
    have e3 : u + v = n := by
      rcases Nat.lt_or_ge (u + v) n with hl | hl
      · rw [Nat.mod_eq_of_lt hl] at e2; omega
      · have : (u + v) % n = u + v - n := by rw [Nat.mod_eq_sub_mod hl, Nat.mod_eq_of_lt (by omega)]
        omega
    simp only [hs, decide_true, Bool.true_xor]
    by_cases hu : n / 2 < u
    · have : ¬ n / 2 < v := by omega
      simp [hu, this]
    · have : n / 2 < v := by omega
      simp [hu, this]
  · have es : sg b n k + 1 = b * (k + 1) % n := by unfold sg; rw [if_neg hs]; omega
    rw [es, e1]
    simp [hs]

theorem mu_mul {a b n : Nat} (ho : n % 2 = 1) (ha : Nat.Coprime a n) (hb : Nat.Coprime b n) : mu (a * b) n % 2 = (mu a n + mu b n) % 2 := by
  unfold mu
  rw [countP_congr' _ (fun k => decide (n / 2 < b * (k + 1) % n) ^^ decide (n / 2 < a * (sg b n k + 1) % n)) _ (fun k hk => neg_mul ho ha hb (by simpa using hk)), countP_xor]
  have := List.Perm.countP_eq (fun k => decide (n / 2 < a * (k + 1) % n)) (sg_perm ho hb)
  rw [List.countP_map] at this
  have e : (List.range (n / 2)).countP (fun k => decide (n / 2 < a * (sg b n k + 1) % n)) = (List.range (n / 2)).countP (fun k => decide (n / 2 < a * (k + 1) % n)) := this
  rw [e]; omega

theorem jac_mul {a b n : Nat} (ho : n % 2 = 1) (ha : Nat.Coprime a n) (hb : Nat.Coprime b n) : jac (a * b) n = (jac a n == jac b n) := by
  have h := mu_mul ho ha hb
  unfold jac
  rw [h]
  rcases Nat.mod_two_eq_zero_or_one (mu a n) with h1 | h1 <;> rcases Nat.mod_two_eq_zero_or_one (mu b n) with h2 | h2 <;>
    simp [h1, h2, Nat.add_mod]

theorem jac_mod (a n : Nat) : jac (a % n) n = jac a n := by
  have e : ∀ k, (a % n) * (k + 1) % n = a * (k + 1) % n := fun k => by rw [Nat.mul_mod, Nat.mod_mod, ← Nat.mul_mod]
  unfold jac mu
  simp only [e]

theorem jac_one {n : Nat} (_ : n % 2 = 1) : jac 1 n = true := by
  have e : mu 1 n = 0 := by
    unfold mu
    rw [List.countP_eq_zero]
    intro k hk
    have hk' : k < n / 2 := by simpa using hk
    have : 1 * (k + 1) % n = k + 1 := by rw [Nat.one_mul]; exact Nat.mod_eq_of_lt (by omega)
    simp only [decide_eq_true_eq]; rw [this]; omega
  simp [jac, e]

theorem count_gt (h c : Nat) : (List.range h).countP (fun k => decide (c ≤ k)) = h - c := by
  induction h with
  | zero => simp
  | succ h ih =>
    rw [List.range_succ, List.countP_append, ih]
    by_cases hc : c ≤ h
    · simp [hc]; omega
    · simp [hc]; omega

theorem jac_two {n : Nat} (ho : n % 2 = 1) : jac 2 n = !(n % 8 == 3 || n % 8 == 5) := by
  have e : mu 2 n = n / 2 - n / 4 := by
    unfold mu
    rw [countP_congr' _ (fun k => decide (n / 4 ≤ k)), count_gt]
    intro k hk
    have hk' : k < n / 2 := by simpa using hk
    have : 2 * (k + 1) % n = 2 * (k + 1) := Nat.mod_eq_of_lt (by omega)
    rw [this]
    by_cases h : n / 4 ≤ k
    · have : n / 2 < 2 * (k + 1) := by omega
      simp [h, this]
    · have : ¬ n / 2 < 2 * (k + 1) := by omega
      simp [h, this]
  unfold jac
  rw [e]
  have h8 : n % 8 = 1 ∨ n % 8 = 3 ∨ n % 8 = 5 ∨ n % 8 = 7 := by omega
  rcases h8 with h | h | h | h
  · have : (n / 2 - n / 4) % 2 = 0 := by omega
    simp [h, this]
  · have : (n / 2 - n / 4) % 2 = 1 := by omega
    simp [h, this]
  · have : (n / 2 - n / 4) % 2 = 1 := by omega
    simp [h, this]
  · have : (n / 2 - n / 4) % 2 = 0 := by omega
    simp [h, this]

/-! ### reciprocity -/
def sumTo (h : Nat) (f : Nat → Nat) : Nat := ((List.range h).map f).sum

theorem sumTo_succ (h : Nat) (f : Nat → Nat) : sumTo (h + 1) f = sumTo h f + f h := by
  unfold sumTo; rw [List.range_succ, List.map_append, List.sum_append]; simp
theorem sumTo_zero (f : Nat → Nat) : sumTo 0 f = 0 := rfl
theorem sumTo_congr {h : Nat} {f g : Nat → Nat} (hfg : ∀ k, k < h → f k = g k) : sumTo h f = sumTo h g := by
  induction h with
  | zero => rfl
  | succ h ih => rw [sumTo_succ, sumTo_succ, ih (fun k hk => hfg k (by omega)), hfg h (by omega)]
theorem sumTo_add (h : Nat) (f g : Nat → Nat) : sumTo h (fun k => f k + g k) = sumTo h f + sumTo h g := by
  induction h with
  | zero => rfl
  | succ h ih => rw [sumTo_succ, sumTo_succ, sumTo_succ, ih]; omega
theorem sumTo_const (h c : Nat) : sumTo h (fun _ => c) = h * c := by
  induction h with
  | zero => simp [sumTo_zero]
  | succ h ih => rw [sumTo_succ, ih, Nat.succ_mul]
theorem sumTo_parity (h : Nat) (f g : Nat → Nat) (hfg : ∀ k, k < h → f k % 2 = g k % 2) : sumTo h f % 2 = sumTo h g % 2 := by
  induction h with
  | zero => rfl
  | succ h ih =>
    have := ih (fun k hk => hfg k (by omega))
    have := hfg h (by omega)
    rw [sumTo_succ, sumTo_succ]; omega
theorem sumTo_swap (h g : Nat) (f : Nat → Nat → Nat) : sumTo h (fun k => sumTo g (fun j => f k j)) = sumTo g (fun j => sumTo h (fun k => f k j)) := by
  induction h with
  | zero => rw [sumTo_zero]; rw [sumTo_congr (g := fun _ => 0) (fun k _ => sumTo_zero _), sumTo_const]; simp
  | succ h ih => rw [sumTo_succ, ih, ← sumTo_add]; exact sumTo_congr (fun j _ => (sumTo_succ _ _).symm)
theorem countP_sumTo (h : Nat) (p : Nat → Bool) : (List.range h).countP p = sumTo h (fun k => if p k then 1 else 0) := by
  induction h with
  | zero => rfl
  | succ h ih =>
    rw [List.range_succ, List.countP_append, ih, sumTo_succ]
    cases hp : p h <;> simp [hp]

/-- how many j below g have (j + 1) * b ≤ x -/
theorem count_div (g b x : Nat) (hb : 0 < b) (hx : x / b ≤ g) : sumTo g (fun j => if b * (j + 1) ≤ x then 1 else 0) = x / b := by
  have h1 : ∀ g, sumTo g (fun j => if b * (j + 1) ≤ x then 1 else 0) = min g (x / b) := by
    intro g
    induction g with
    | zero => simp [sumTo_zero]
    | succ g ih =>
      rw [sumTo_succ, ih]
      by_cases h : b * (g + 1) ≤ x
      · have : g + 1 ≤ x / b := (Nat.le_div_iff_mul_le hb).2 (by rw [Nat.mul_comm]; exact h)
        rw [if_pos h]; omega
      · have : ¬ g + 1 ≤ x / b := fun hc => h (by have := (Nat.le_div_iff_mul_le hb).1 hc; rw [Nat.mul_comm]; exact this)
        rw [if_neg h]; omega
  rw [h1]; omega

theorem lattice {a n : Nat} (ha : a % 2 = 1) (hn : n % 2 = 1) (hc : Nat.Coprime a n) :
    sumTo (n / 2) (fun k => a * (k + 1) / n) + sumTo (a / 2) (fun j => n * (j + 1) / a) = (n / 2) * (a / 2) := by
  have b1 : ∀ k, k < n / 2 → a * (k + 1) / n ≤ a / 2 := by
    intro k hk
    have h1 : a * (k + 1) < n * (a / 2 + 1) := by
      have h2 : a * (k + 1) ≤ a * (n / 2) := Nat.mul_le_mul_left a (by omega)
      have h3 : 2 * (a * (n / 2)) < 2 * (n * (a / 2 + 1)) := by
        have e1 : 2 * (a * (n / 2)) = a * (n - 1) := by
          rw [Nat.mul_left_comm]; congr 1; omega
        have e2 : 2 * (n * (a / 2 + 1)) = n * (a + 1) := by
          rw [Nat.mul_left_comm]; congr 1; omega
        rw [e1, e2]
        have e3 : a * (n - 1) ≤ a * n := Nat.mul_le_mul_left a (by omega)
        have e4 : n * (a + 1) = a * n + n := by rw [Nat.mul_add, Nat.mul_comm n a, Nat.mul_one]
        omega
      omega
    have := (Nat.div_lt_iff_lt_mul (show 0 < n by omega)).2 (by rw [Nat.mul_comm]; exact h1)
    omega
  have b2 : ∀ j, j < a / 2 → n * (j + 1) / a ≤ n / 2 := by
    intro j hj
    have h1 : n * (j + 1) < a * (n / 2 + 1) := by
      have h2 : n * (j + 1) ≤ n * (a / 2) := Nat.mul_le_mul_left n (by omega)
      have h3 : 2 * (n * (a / 2)) < 2 * (a * (n / 2 + 1)) := by
        have e1 : 2 * (n * (a / 2)) = n * (a - 1) := by
          rw [Nat.mul_left_comm]; congr 1; omega
        have e2 : 2 * (a * (n / 2 + 1)) = a * (n + 1) := by
          rw [Nat.mul_left_comm]; congr 1; omega
        rw [e1, e2]
        have e3 : n * (a - 1) ≤ n * a := Nat.mul_le_mul_left n (by omega)
        have e4 : a * (n + 1) = n * a + a := by rw [Nat.mul_add, Nat.mul_comm a n, Nat.mul_one]
        omega
      omega
    have := (Nat.div_lt_iff_lt_mul (show 0 < a by omega)).2 (by rw [Nat.mul_comm]; exact h1)
    omega
  have e1 : sumTo (n / 2) (fun k => a * (k + 1) / n) = sumTo (n / 2) (fun k => sumTo (a / 2) (fun j => if n * (j + 1) ≤ a * (k + 1) then 1 else 0)) :=
    sumTo_congr fun k hk => (count_div (a / 2) n (a * (k + 1)) (by omega) (b1 k hk)).symm
  have e2 : sumTo (a / 2) (fun j => n * (j + 1) / a) = sumTo (a / 2) (fun j => sumTo (n / 2) (fun k => if a * (k + 1) ≤ n * (j + 1) then 1 else 0)) :=
    sumTo_congr fun j hj => (count_div (n / 2) a (n * (j + 1)) (by omega) (b2 j hj)).symm
  rw [e1, e2, sumTo_swap, ← sumTo_add]
  have e3 : ∀ j, j < a / 2 → sumTo (n / 2) (fun k => if n * (j + 1) ≤ a * (k + 1) then 1 else 0) + sumTo (n / 2) (fun k => if a * (k + 1) ≤ n * (j + 1) then 1 else 0) = n / 2 := by
    intro j hj
    rw [← sumTo_add, sumTo_congr (g := fun _ => 1), sumTo_const, Nat.mul_one]
    intro k hk
    have hne : n * (j + 1) ≠ a * (k + 1) := by
      intro he
      have hd : n ∣ a * (k + 1) := ⟨j + 1, he.symm⟩
      have := Nat.Coprime.dvd_of_dvd_mul_left hc.symm hd
      have := Nat.le_of_dvd (by omega) this
      omega
    rcases Nat.lt_or_gt_of_ne hne with h | h
    · rw [if_pos (by omega), if_neg (by omega)]
    · rw [if_neg (by omega), if_pos (by omega)]
  rw [sumTo_congr e3, sumTo_const, Nat.mul_comm]

theorem mu_floor {a n : Nat} (ha : a % 2 = 1) (hn : n % 2 = 1) (hc : Nat.Coprime a n) : mu a n % 2 = sumTo (n / 2) (fun k => a * (k + 1) / n) % 2 := by
  have hperm := (sg_perm hn hc).sum_nat
  have hs : sumTo (n / 2) (sg a n) = sumTo (n / 2) (fun k => k) := by
    unfold sumTo; rw [hperm, List.map_id']
  have hs1 : sumTo (n / 2) (fun k => sg a n k + 1) = sumTo (n / 2) (fun k => k + 1) := by
    rw [sumTo_add, sumTo_add, hs]
  -- termwise parity: (k+1) ≡ floor + neg + (sg+1)
  have ht : sumTo (n / 2) (fun k => k + 1) % 2 = sumTo (n / 2) (fun k => (a * (k + 1) / n + (if n / 2 < a * (k + 1) % n then 1 else 0)) + (sg a n k + 1)) % 2 := by
    apply sumTo_parity
    intro k hk
    have h0 := res_ne hc (show k + 1 < n by omega)
    have h1 := Nat.mod_lt (a * (k + 1)) (show 0 < n by omega)
    have hd := Nat.div_add_mod (a * (k + 1)) n
    have hp1 : (a * (k + 1)) % 2 = (k + 1) % 2 := by rw [Nat.mul_mod, ha, Nat.one_mul, Nat.mod_mod]
    have hp2 : (n * (a * (k + 1) / n)) % 2 = (a * (k + 1) / n) % 2 := by rw [Nat.mul_mod, hn, Nat.one_mul, Nat.mod_mod]
    unfold sg
    generalize a * (k + 1) % n = r at *
    generalize n * (a * (k + 1) / n) = u at *
    generalize a * (k + 1) / n = q at *
    generalize a * (k + 1) = v at *
    split <;> omega
  rw [sumTo_add _ (fun k => a * (k + 1) / n + (if n / 2 < a * (k + 1) % n then 1 else 0)) (fun k => sg a n k + 1), sumTo_add _ (fun k => a * (k + 1) / n), hs1] at ht
  have hm : mu a n = sumTo (n / 2) (fun k => if n / 2 < a * (k + 1) % n then 1 else 0) := by
    unfold mu; rw [countP_sumTo]
    exact sumTo_congr (fun k _ => by by_cases h : n / 2 < a * (k + 1) % n <;> simp [h])
  rw [hm]
  omega

theorem recip {a n : Nat} (ha : a % 2 = 1) (hn : n % 2 = 1) (hc : Nat.Coprime a n) : jac a n = (jac n a ^^ (a % 4 == 3 && n % 4 == 3)) := by
  have h1 := mu_floor ha hn hc
  have h2 := mu_floor hn ha hc.symm
  have h3 := lattice ha hn hc
  have h4 : (mu a n + mu n a) % 2 = (n / 2) * (a / 2) % 2 := by rw [← h3]; omega
  have h5 : (n / 2) * (a / 2) % 2 = if a % 4 = 3 ∧ n % 4 = 3 then 1 else 0 := by
    rw [Nat.mul_mod]
    by_cases h : a % 4 = 3
    · by_cases h' : n % 4 = 3
      · have e1 : n / 2 % 2 = 1 := by omega
        have e2 : a / 2 % 2 = 1 := by omega
        simp [h, h', e1, e2]
      · have e1 : n / 2 % 2 = 0 := by omega
        simp [h', e1]
    · have e2 : a / 2 % 2 = 0 := by omega
      simp [h, e2]
  rw [h5] at h4
  unfold jac
  by_cases h : a % 4 = 3 ∧ n % 4 = 3
  · rw [if_pos h] at h4
    have : (mu a n % 2 = 0 ∧ mu n a % 2 = 1) ∨ (mu a n % 2 = 1 ∧ mu n a % 2 = 0) := by omega
    rcases this with ⟨x, y⟩ | ⟨x, y⟩ <;> simp [x, y, h.1, h.2]
  · rw [if_neg h] at h4
    have hb : (a % 4 == 3 && n % 4 == 3) = false := by
      by_cases h' : a % 4 = 3
      · have : ¬ n % 4 = 3 := fun e => h ⟨h', e⟩
        simp [this]
      · simp [h']
    have : (mu a n % 2 = 0 ∧ mu n a % 2 = 0) ∨ (mu a n % 2 = 1 ∧ mu n a % 2 = 1) := by omega
    rcases this with ⟨x, y⟩ | ⟨x, y⟩ <;> simp [x, y, hb]

end Fk
