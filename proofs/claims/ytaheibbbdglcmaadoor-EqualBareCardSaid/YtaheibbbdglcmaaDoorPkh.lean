import Derived.Test.YtaheibbbdglcmaaDoorChecked
import Derived.Tactics
import Derived.Tactics2
import Derived.StillTactics
import Derived.WalkKit
import Derived.Laws.Small
import Derived.Laws.StructEq
import Derived.Laws.Tables
import Derived.KernelRfl
import Derived.Test.YtaheibbbdglcmaaDoorPkg
/-! A drawn region's head in one given order, where the tail may store to what the head loads: an operation of the head need be apart from those of the head alone, for the tail waits. -/
namespace Fk
open Go
section
variable {P : Program} {ops : Array Oper} {Q : Exit → Act → World → Prop} {md : Region.Mode} {S : World → Prop} {n : Nat}
def freeT (md : Region.Mode) (ops : Array Oper) (n : Nat) (listed : Array Bool) (i : Nat) : Bool :=
  match ops[i]? with
  | none => false
  | some oi => (List.range n).all fun j => j == i || listed.getD j true || match ops[j]? with
      | some oj => oj.after.any (fun e => Region.binds md e && e.on == i) || oi.apart ops oj
      | none => true
theorem freeT_spec {i : Nat} {oi : Oper} {listed : Array Bool} (hi : ops[i]? = some oi) (h : freeT md ops n listed i = true) (j : Nat) (oj : Oper) (hjn : j < n)
    (hj : ops[j]? = some oj) (hne : j ≠ i) (hun : listed.getD j true = false) (hno : ∀ e ∈ oj.after, Region.binds md e = true → e.on ≠ i) :
    oi.apart ops oj = true := by
  simp only [freeT, hi, List.all_eq_true, List.mem_range] at h
  have h1 := h j hjn
  simp only [hj, Bool.or_eq_true, beq_iff_eq, hne, false_or, hun, Bool.false_eq_true] at h1
  rcases h1 with h1 | h1
  · obtain ⟨e, he, hb⟩ := Array.any_eq_true'.1 h1
    simp only [Bool.and_eq_true, beq_iff_eq] at hb
    exact absurd hb.2 (hno e he hb.1)
  · exact h1
theorem wpAnyG_firstT {fr : List Nat} {i : Nat} {oi : Oper} {v : Value} (hi : ops[i]? = some oi) (hsel : ∀ (j : Nat) (o : Oper) cs b, ops[j]? = some o → o.op ≠ .select cs b)
    (hs : sinkF md ops n fr = true) (hc : Region.chainB md ops n = true) (hn : n < ops.size) (hin : i < n) (hfi : fr.contains i = false)
    (hQ : ∀ c a w, Q (.panic c) (a.put oi.dst v) w → Q (.panic c) a w) :
    ∀ (fuel : Nat) (listed : Array Bool) (a : Act) (w : World), HeadInv md ops n listed → FrDone n fr listed →
      (∀ j oj, j < n → ops[j]? = some oj → j ≠ i → listed.getD j true = false → (∀ e ∈ oj.after, Region.binds md e = true → e.on ≠ i) → oi.apart ops oj = true) →
      i ∈ Region.ready md ops listed → YieldsIf P ops S oi v a → S w →
      wpAnyG P md ops Q S n fr fuel (listed.setIfInBounds i true) (a.put oi.dst v) w → wpAnyG P md ops Q S n fr (fuel + 1) listed a w := by
  intro fuel
  induction fuel with
  | zero =>
    intro listed a w _ _ _ hr hy hS H
    refine ⟨fun h => (by rw [h] at hr; cases hr), fun j hj => ?_⟩
    by_cases hji : j = i
    · subst hji; exact hy.wpOp hi hS ⟨fun _ => hS, H⟩
    · have := ready_mono hj hji
      rw [H.1] at this
      cases this
  | succ fuel ih =>
    intro listed a w inv hfd hfree hr hy hS H
    have hun := (mem_ready.1 hr).1
    refine ⟨fun h => (by rw [h] at hr; cases hr), fun j hj => ?_⟩
    have hjn : j < n := by
      rcases Nat.lt_or_ge j n with h | h
      · exact h
      · exact absurd hj (tail_waitsF hs hc hn inv _ i rfl hin hfi hun j h)
    by_cases hji : j = i
    · subst hji; exact hy.wpOp hi hS ⟨fun _ => hS, H⟩
    · have h1 := H.2 j (ready_mono hj hji)
      obtain ⟨hjun, oj, hoj, hall⟩ := mem_ready.1 hj
      have hjh : heldB n fr j = true := by
        cases hb : heldB n fr j with
        | true => rfl
        | false => have := hfd j hjn hb; rw [hjun] at this; cases this
      have hnot : ∀ e ∈ oj.after, Region.binds md e = true → e.on ≠ i := fun e he hb heq => by
        have h1 := hall e he hb
        rw [heq, getD_both hun] at h1
        cases h1
      have h2 := wpOp_putIf hoj (hfree j oj hjn hoj hji hjun hnot) (fun cs b => hsel i oi cs b hi) (fun cs b => hsel j oj cs b hoj) hQ hy h1
      have hfree' : ∀ k ok, k < n → ops[k]? = some ok → k ≠ i → (listed.setIfInBounds j true).getD k true = false →
          (∀ e ∈ ok.after, Region.binds md e = true → e.on ≠ i) → oi.apart ops ok = true := fun k ok hkn hk hki hun hno => by
        refine hfree k ok hkn hk hki ?_ hno
        by_cases hjk : j = k
        · subst hjk; exact hjun
        · rw [getD_set_ne true hjk] at hun; exact hun
      have hfd' : FrDone n fr (listed.setIfInBounds j true) := fun k hk hb => by
        by_cases hjk : j = k
        · subst hjk; rw [hjh] at hb; cases hb
        · rw [getD_set_ne true hjk]; exact hfd k hk hb
      refine wpOp_mono (fun a' w' h3 => ⟨h3.2.1, ih (listed.setIfInBounds j true) a' w' (inv.set hj hjn) hfd' hfree' (ready_mono hr (Ne.symm hji)) h3.1 (h3.2.1 hjh) ?_⟩) h2
      rw [Array.setIfInBounds_comm _ _ hji]
      exact h3.2.2
/-- The kinds of a step: 1: yields its value in every world that meets S; 2: alone may come up. -/
def ordT (md : Region.Mode) (ops : Array Oper) (n : Nat) : List (Nat × Nat) → Array Bool → Bool
  | [], listed => Region.seqB md ops (ops.size - n) n listed
  | (0, _) :: _, _ => false
  | (1, k) :: r, listed => decide (k < n) && (Region.ready md ops listed).contains k && freeT md ops n listed k && ordT md ops n r (listed.setIfInBounds k true)
  | (_ + 2, k) :: r, listed => decide (k < n) && decide (Region.ready md ops listed = [k]) && ordT md ops n r (listed.setIfInBounds k true)
theorem frDone_nil (listed : Array Bool) : FrDone n [] listed := fun i hi hb => by
  exfalso; simp [heldB, hi] at hb
theorem ordT_sound (hQ : ∀ c a (d : Option Tmp) v w, Q (.panic c) (Act.put a d v) w → Q (.panic c) a w) (hsel : Region.noSelect ops = true) (hs : sinkF md ops n [] = true) (hc : Region.chainB md ops n = true) (hn : n < ops.size)
    (tl : List Oper) (htl : ∀ j, tl[j]? = ops[n + j]?) (hlen : tl.length = ops.size - n) :
    ∀ (ord : List (Nat × Nat)) (listed : Array Bool) (a : Act) (w : World), HeadInv md ops n listed → ordT md ops n ord listed = true → S w →
      wpOrd P ops Q S tl ord a w → wpAnyG P md ops Q S n [] (ord.length + (ops.size - n)) listed a w
  | [], listed, a, w, _, hB, _, h => by
    rw [List.length_nil, Nat.zero_add, ← hlen]
    exact wpAnyG_seq tl n listed a w (Nat.le_refl _) htl (by rw [hlen]; exact hB) h
  | (0, k) :: r, listed, a, w, inv, hB, hS, h => by cases hB
  | (1, k) :: r, listed, a, w, inv, hB, hS, h => by
    obtain ⟨o, v, ho, hy, h⟩ := h
    simp only [ordT, Bool.and_eq_true, decide_eq_true_eq] at hB
    obtain ⟨⟨⟨h1, h2⟩, h3⟩, h4⟩ := hB
    have hr : k ∈ Region.ready md ops listed := by simpa using h2
    rw [List.length_cons, show r.length + 1 + (ops.size - n) = (r.length + (ops.size - n)) + 1 by omega]
    exact wpAnyG_firstT ho (Region.noSelect_spec hsel) hs hc hn h1 rfl (fun c a w => hQ c a o.dst v w) _ listed a w inv (frDone_nil _) (freeT_spec ho h3) hr hy hS
      (ordT_sound hQ hsel hs hc hn tl htl hlen r _ _ w (inv.set hr h1) h4 hS h)
  | (_ + 2, k) :: r, listed, a, w, inv, hB, hS, h => by
    obtain ⟨o, ho, h⟩ := h
    simp only [ordT, Bool.and_eq_true, decide_eq_true_eq] at hB
    obtain ⟨⟨h1, h2⟩, h4⟩ := hB
    have hr : k ∈ Region.ready md ops listed := by rw [h2]; simp
    rw [List.length_cons, show r.length + 1 + (ops.size - n) = (r.length + (ops.size - n)) + 1 by omega]
    refine ⟨fun h0 => (by rw [h0] at hr; cases hr), fun i hi => ?_⟩
    rw [h2] at hi
    obtain rfl : i = k := by simpa using hi
    unfold wpOp
    simp only [ho]
    split
    · rename_i hw
      rw [if_pos hw] at h
      exact .inl (Oper.wp_mono (fun a' w' h' => ⟨fun _ => h'.1, ordT_sound hQ hsel hs hc hn tl htl hlen r _ a' w' (inv.set hr h1) h4 h'.1 h'.2⟩) h)
    · rename_i hw
      rw [if_neg hw] at h
      exact ⟨fun _ => hS, ordT_sound hQ hsel hs hc hn tl htl hlen r _ _ w (inv.set hr h1) h4 hS h⟩
def regT (ops : Array Oper) (n : Nat) (ord : List (Nat × Nat)) : Bool :=
  Region.noSelect ops && decide (n < ops.size) && decide (ord.length = n) && sinkF .any ops n [] && Region.chainB .any ops n && ordT .any ops n ord (Array.replicate ops.size false)
theorem regT_any {l : List Oper} {a : Act} {w : World} (n : Nat) (ord : List (Nat × Nat)) (S : World → Prop) (hB : regT l.toArray n ord = true)
    (hQ : ∀ c a (d : Option Tmp) v w, Q (.panic c) (Act.put a d v) w → Q (.panic c) a w) (hS : S w) (h : wpOrd P l.toArray Q S (l.drop n) ord a w) : wpAny P .any l.toArray Q l.toArray.size (Array.replicate l.toArray.size false) a w := by
  simp only [regT, Bool.and_eq_true, decide_eq_true_eq] at hB
  obtain ⟨⟨⟨⟨⟨hsel, hn⟩, hlen⟩, hs⟩, hc⟩, hord⟩ := hB
  have inv0 : HeadInv .any l.toArray n (Array.replicate l.toArray.size false) :=
    ⟨by simp, fun j oj _ hl => (by rw [getD_replicate_false] at hl; cases hl), fun t _ ht => getD_in (by simpa using ht) (getD_replicate_false _ _)⟩
  have := ordT_sound (P := P) (Q := Q) (S := S) hQ hsel hs hc hn (l.drop n) (fun j => by simp [List.getElem?_drop]) (by simp) ord _ a w inv0 hord hS h
  rw [hlen, show n + (l.toArray.size - n) = l.toArray.size by omega] at this
  exact wpAny_of_G _ _ _ _ this
theorem wp_region_ordT {id : Nat} {a : Act} {w : World} {l : List Oper} (n : Nat) (ord : List (Nat × Nat)) (S : World → Prop) (hm : P.follows .mixedOrders = true) (hB : regT l.toArray n ord = true)
    (hQ : ∀ c a (d : Option Tmp) v w, Q (.panic c) (Act.put a d v) w → Q (.panic c) a w) (hS : S w.drew) (h : wpOrd P l.toArray Q S (l.drop n) ord a w.drew) : (Code.region id l.toArray true).wp P Q a w :=
  wp_region_any hm (regT_any n ord S hB hQ hS h)
theorem wpIn_region_ordT {lb m : Nat} {id : Nat} {a : Act} {w : World} {l : List Oper} (n : Nat) (ord : List (Nat × Nat)) (S : World → Prop) (hm : P.follows .mixedOrders = true) (hB : (regT l.toArray n ord && noDefer l.toArray) = true)
    (hL : ¬ LetsOut Q) (hQ : ∀ c a (d : Option Tmp) v w, Q (.panic c) (Act.put a d v) w → Q (.panic c) a w) (hS : S w.drew) (h : wpOrd P l.toArray Q S (l.drop n) ord a w.drew) : (Code.region id l.toArray true).wpIn (Fence.wide.inRound lb) m P Q a w := by
  rw [Bool.and_eq_true] at hB
  exact wpIn_region_any hm (wpAnyIn_of lb m hB.2 hL _ _ _ _ (regT_any n ord S hB.1 hQ hS h))
end
end Fk

set_option linter.unusedSimpArgs false
set_option linter.unusedVariables false
namespace Go.Proofs.YtaheibbbdglcmaaDoor
open Go.RowKit Go.Shelf Fk Sha
attribute [local go_sem] Oper.semAt_some
attribute [local go_sem] wide_fn
/-- what stands while the places are gone through: j of them are made -/
structure BR (w : World) (n : Int) (len : Nat) (fx fp : Nat → Int) (bx bp j jp : Nat) (W : World) : Prop where
  b : Below w.heap.size w W
  r2 : Row W w.heap.size 3 [.int .i64 n]
  r4 : Row W (w.heap.size + 1) 46 [.slice (some ⟨bx, 0, none⟩) len len]
  r5 : Row W (w.heap.size + 1 + 1) 47 [.slice (some ⟨bp, 0, none⟩) len len]
  rx : Row W bx 55 (cel fx (6 * len) j)
  rp : Row W bp 81 (cel fp (6 * len) jp)
  x1 : w.heap.size + 3 ≤ bx
  x2 : w.heap.size + 3 ≤ bp
  x3 : bx ≠ bp
theorem BR.below {w W W' : World} {n : Int} {len : Nat} {fx fp : Nat → Int} {bx bp j jp : Nat} (h : BR w n len fx fp bx bp j jp W) (hb : Below W.heap.size W W') : BR w n len fx fp bx bp j jp W' :=
  ⟨h.b.trans (hb.mono h.b.size), h.r2.below hb h.r2.lt, h.r4.below hb h.r4.lt, h.r5.below hb h.r5.lt, h.rx.below hb h.rx.lt, h.rp.below hb h.rp.lt, h.x1, h.x2, h.x3⟩
theorem BR.setx {w W : World} {n : Int} {len : Nat} {fx fp : Nat → Int} {bx bp j jp : Nat} (h : BR w n len fx fp bx bp j jp W) (hj : 2 * j + 1 < 6 * len) {m : Nat} (hm : m = 2 * j) {x y : Int} (hx : fx (2 * j) = x) (hy : fx (2 * j + 1) = y) : BR w n len fx fp bx bp (j + 1) jp ((W.setCell ⟨bx, m, none⟩ (.int .i64 x)).setCell ⟨bx, m + 1, none⟩ (.int .i64 y)) := by
  subst hm
  have hx1 := h.x1
  have e1 : w.heap.size ≠ bx := by omega
  have e2 : w.heap.size + 1 ≠ bx := by omega
  have e3 : w.heap.size + 1 + 1 ≠ bx := by omega
  refine ⟨(h.b.setCell (p := ⟨bx, 2 * j, none⟩) (by simp only []; omega) _).setCell (p := ⟨bx, 2 * j + 1, none⟩) (by simp only []; omega) _, Row.other (Row.other h.r2 e1 _) e1 _, Row.other (Row.other h.r4 e2 _) e2 _, Row.other (Row.other h.r5 e3 _) e3 _, ?_, Row.other (Row.other h.rp h.x3.symm _) h.x3.symm _, h.x1, h.x2, h.x3⟩
  have := Row.store (Row.store h.rx (2 * j) (.int .i64 x)) (2 * j + 1) (.int .i64 y)
  rwa [cel_set fx hj hx.symm hy.symm] at this
theorem BR.setp {w W : World} {n : Int} {len : Nat} {fx fp : Nat → Int} {bx bp j jp : Nat} (h : BR w n len fx fp bx bp j jp W) (hj : 2 * jp + 1 < 6 * len) {m : Nat} (hm : m = 2 * jp) {x y : Int} (hx : fp (2 * jp) = x) (hy : fp (2 * jp + 1) = y) : BR w n len fx fp bx bp j (jp + 1) ((W.setCell ⟨bp, m, none⟩ (.int .i64 x)).setCell ⟨bp, m + 1, none⟩ (.int .i64 y)) := by
  subst hm
  have hx1 := h.x2
  have e1 : w.heap.size ≠ bp := by omega
  have e2 : w.heap.size + 1 ≠ bp := by omega
  have e3 : w.heap.size + 1 + 1 ≠ bp := by omega
  refine ⟨(h.b.setCell (p := ⟨bp, 2 * jp, none⟩) (by simp only []; omega) _).setCell (p := ⟨bp, 2 * jp + 1, none⟩) (by simp only []; omega) _, Row.other (Row.other h.r2 e1 _) e1 _, Row.other (Row.other h.r4 e2 _) e2 _, Row.other (Row.other h.r5 e3 _) e3 _, Row.other (Row.other h.rx h.x3 _) h.x3 _, ?_, h.x1, h.x2, h.x3⟩
  have := Row.store (Row.store h.rp (2 * jp) (.int .i64 x)) (2 * jp + 1) (.int .i64 y)
  rwa [cel_set fp hj hx.symm hy.symm] at this
theorem BR.cx {w W : World} {n : Int} {len : Nat} {fx fp : Nat → Int} {bx bp j jp : Nat} (h : BR w n len fx fp bx bp j jp W) {m : Nat} (hm : m < 6 * len) : W.cell? ⟨bx, m, none⟩ = some (.int .i64 (if m < 2 * j then fx m else 0)) := (h.rx.cell m).trans (cel_get _ hm)
theorem BR.cp {w W : World} {n : Int} {len : Nat} {fx fp : Nat → Int} {bx bp j jp : Nat} (h : BR w n len fx fp bx bp j jp W) {m : Nat} (hm : m < 6 * len) : W.cell? ⟨bp, m, none⟩ = some (.int .i64 (if m < 2 * jp then fp m else 0)) := (h.rp.cell m).trans (cel_get _ hm)
theorem BR.ab {w W W' : World} {n : Int} {len : Nat} {fx fp : Nat → Int} {bx bp j jp : Nat} {row : Option Nat} {m : Nat} (h : BR w n len fx fp bx bp j jp W) (hg : W.grownBy W' row) (hr : ∀ r, row = some r → m = r) (h1 : bx < m) (h2 : bp < m) : BR w n len fx fp bx bp j jp W' := by
  have hx := h.x1
  have k : ∀ i, i < m → some i ≠ row := fun i hi e => by have := hr i e.symm; omega
  exact ⟨h.b.grown hg h.b.size (fun r e => by have := hr r e; omega), h.r2.keep (hg.block _ h.r2.lt (k _ (by omega))), h.r4.keep (hg.block _ h.r4.lt (k _ (by omega))), h.r5.keep (hg.block _ h.r5.lt (k _ (by omega))), h.rx.keep (hg.block _ h.rx.lt (k _ h1)), h.rp.keep (hg.block _ h.rp.lt (k _ h2)), h.x1, h.x2, h.x3⟩
section
variable {w W : World} {n : Int} {len : Nat} {fx fp : Nat → Int}
theorem BR.start1 (hB : Below w.heap.size w W) (hz : w.heap.size + 3 ≤ W.heap.size) (r2 : Row W w.heap.size 3 [.int .i64 n]) (r4 : Row W (w.heap.size + 1) 46 [.slice none 0 0]) (r5 : Row W (w.heap.size + 1 + 1) 47 [.slice none 0 0]) :
    BR w n len fx fp W.heap.size (W.heap.size + 1) 0 0 ((((W.alloc (.cells (cel fx (6 * len) 0).toArray 55)).alloc (.cells (cel fp (6 * len) 0).toArray 81)).setCell ⟨w.heap.size + 1, 0, none⟩ (.slice (some ⟨W.heap.size, 0, none⟩) len len)).setCell ⟨w.heap.size + 1 + 1, 0, none⟩ (.slice (some ⟨W.heap.size + 1, 0, none⟩) len len)).drew := by
  have e1 : w.heap.size ≠ w.heap.size + 1 := by omega
  have e2 : w.heap.size ≠ w.heap.size + 1 + 1 := by omega
  have e3 : w.heap.size + 1 ≠ w.heap.size + 1 + 1 := by omega
  have e4 : W.heap.size ≠ w.heap.size + 1 := by omega
  have e5 : W.heap.size ≠ w.heap.size + 1 + 1 := by omega
  have e6 : W.heap.size + 1 ≠ w.heap.size + 1 := by omega
  have e7 : W.heap.size + 1 ≠ w.heap.size + 1 + 1 := by omega
  refine ⟨((((hB.alloc hB.size _).alloc (by simp; omega) _).setCell (p := ⟨w.heap.size + 1, 0, none⟩) (by simp only []; omega) _).setCell (p := ⟨w.heap.size + 1 + 1, 0, none⟩) (by simp only []; omega) _).drew, ?_, ?_, ?_, ?_, ?_, hz, by omega, by omega⟩
  · exact Row.other (Row.other ((r2.alloc _).alloc _) e1 _) e2 _
  · exact Row.other (Row.store ((r4.alloc _).alloc _) 0 _) e3 _
  · exact Row.store (Row.other ((r5.alloc _).alloc _) e3.symm _) 0 _
  · exact Row.other (Row.other ((Row.new W _ _).alloc _) e4 _) e5 _
  · exact Row.other (Row.other (row_size (by simp) _ _) e6 _) e7 _
theorem BR.start2 (hB : Below w.heap.size w W) (hz : w.heap.size + 3 ≤ W.heap.size) (r2 : Row W w.heap.size 3 [.int .i64 n]) (r4 : Row W (w.heap.size + 1) 46 [.slice none 0 0]) (r5 : Row W (w.heap.size + 1 + 1) 47 [.slice none 0 0]) :
    BR w n len fx fp (W.heap.size + 1) W.heap.size 0 0 ((((W.alloc (.cells (cel fp (6 * len) 0).toArray 81)).alloc (.cells (cel fx (6 * len) 0).toArray 55)).setCell ⟨w.heap.size + 1, 0, none⟩ (.slice (some ⟨W.heap.size + 1, 0, none⟩) len len)).setCell ⟨w.heap.size + 1 + 1, 0, none⟩ (.slice (some ⟨W.heap.size, 0, none⟩) len len)).drew := by
  have e1 : w.heap.size ≠ w.heap.size + 1 := by omega
  have e2 : w.heap.size ≠ w.heap.size + 1 + 1 := by omega
  have e3 : w.heap.size + 1 ≠ w.heap.size + 1 + 1 := by omega
  have e4 : W.heap.size ≠ w.heap.size + 1 := by omega
  have e5 : W.heap.size ≠ w.heap.size + 1 + 1 := by omega
  have e6 : W.heap.size + 1 ≠ w.heap.size + 1 := by omega
  have e7 : W.heap.size + 1 ≠ w.heap.size + 1 + 1 := by omega
  refine ⟨((((hB.alloc hB.size _).alloc (by simp; omega) _).setCell (p := ⟨w.heap.size + 1, 0, none⟩) (by simp only []; omega) _).setCell (p := ⟨w.heap.size + 1 + 1, 0, none⟩) (by simp only []; omega) _).drew, ?_, ?_, ?_, ?_, ?_, by omega, hz, by omega⟩
  · exact Row.other (Row.other ((r2.alloc _).alloc _) e1 _) e2 _
  · exact Row.other (Row.store ((r4.alloc _).alloc _) 0 _) e3 _
  · exact Row.store (Row.other ((r5.alloc _).alloc _) e3.symm _) 0 _
  · exact Row.other (Row.other (row_size (by simp) _ _) e6 _) e7 _
  · exact Row.other (Row.other ((Row.new W _ _).alloc _) e4 _) e5 _
theorem BR.start3 (hB : Below w.heap.size w W) (hz : w.heap.size + 3 ≤ W.heap.size) (r2 : Row W w.heap.size 3 [.int .i64 n]) (r4 : Row W (w.heap.size + 1) 46 [.slice none 0 0]) (r5 : Row W (w.heap.size + 1 + 1) 47 [.slice none 0 0]) :
    BR w n len fx fp W.heap.size (W.heap.size + 1) 0 0 ((((W.setCell ⟨w.heap.size + 1, 0, none⟩ (.slice (some ⟨W.heap.size, 0, none⟩) len len)).setCell ⟨w.heap.size + 1 + 1, 0, none⟩ (.slice (some ⟨W.heap.size + 1, 0, none⟩) len len)).alloc (.cells (cel fx (6 * len) 0).toArray 55)).alloc (.cells (cel fp (6 * len) 0).toArray 81)).drew := by
  have e1 : w.heap.size ≠ w.heap.size + 1 := by omega
  have e2 : w.heap.size ≠ w.heap.size + 1 + 1 := by omega
  have e3 : w.heap.size + 1 ≠ w.heap.size + 1 + 1 := by omega
  have hs : ((W.setCell ⟨w.heap.size + 1, 0, none⟩ (.slice (some ⟨W.heap.size, 0, none⟩) len len)).setCell ⟨w.heap.size + 1 + 1, 0, none⟩ (.slice (some ⟨W.heap.size + 1, 0, none⟩) len len)).heap.size = W.heap.size := by simp [World.setCell]
  have hb2 := (hB.setCell (p := ⟨w.heap.size + 1, 0, none⟩) (by simp only []; omega) (.slice (some ⟨W.heap.size, 0, none⟩) len len)).setCell (p := ⟨w.heap.size + 1 + 1, 0, none⟩) (by simp only []; omega) (.slice (some ⟨W.heap.size + 1, 0, none⟩) len len)
  refine ⟨((hb2.alloc hb2.size _).alloc (by have := hb2.size; rw [World.size_alloc]; omega) _).drew, ?_, ?_, ?_, ?_, ?_, hz, by omega, by omega⟩
  · exact ((Row.other (Row.other r2 e1 _) e2 _).alloc _).alloc _
  · exact ((Row.other (Row.store r4 0 _) e3 _).alloc _).alloc _
  · exact ((Row.store (Row.other r5 e3.symm _) 0 _).alloc _).alloc _
  · exact (row_size hs _ _).alloc _
  · exact row_size (by rw [World.size_alloc, hs]) _ _
theorem BR.start4 (hB : Below w.heap.size w W) (hz : w.heap.size + 3 ≤ W.heap.size) (r2 : Row W w.heap.size 3 [.int .i64 n]) (r4 : Row W (w.heap.size + 1) 46 [.slice none 0 0]) (r5 : Row W (w.heap.size + 1 + 1) 47 [.slice none 0 0]) :
    BR w n len fx fp (W.heap.size + 1) W.heap.size 0 0 ((((W.setCell ⟨w.heap.size + 1, 0, none⟩ (.slice (some ⟨W.heap.size + 1, 0, none⟩) len len)).setCell ⟨w.heap.size + 1 + 1, 0, none⟩ (.slice (some ⟨W.heap.size, 0, none⟩) len len)).alloc (.cells (cel fp (6 * len) 0).toArray 81)).alloc (.cells (cel fx (6 * len) 0).toArray 55)).drew := by
  have e1 : w.heap.size ≠ w.heap.size + 1 := by omega
  have e2 : w.heap.size ≠ w.heap.size + 1 + 1 := by omega
  have e3 : w.heap.size + 1 ≠ w.heap.size + 1 + 1 := by omega
  have hs : ((W.setCell ⟨w.heap.size + 1, 0, none⟩ (.slice (some ⟨W.heap.size + 1, 0, none⟩) len len)).setCell ⟨w.heap.size + 1 + 1, 0, none⟩ (.slice (some ⟨W.heap.size, 0, none⟩) len len)).heap.size = W.heap.size := by simp [World.setCell]
  have hb2 := (hB.setCell (p := ⟨w.heap.size + 1, 0, none⟩) (by simp only []; omega) (.slice (some ⟨W.heap.size + 1, 0, none⟩) len len)).setCell (p := ⟨w.heap.size + 1 + 1, 0, none⟩) (by simp only []; omega) (.slice (some ⟨W.heap.size, 0, none⟩) len len)
  refine ⟨((hb2.alloc hb2.size _).alloc (by have := hb2.size; rw [World.size_alloc]; omega) _).drew, ?_, ?_, ?_, ?_, ?_, by omega, hz, by omega⟩
  · exact ((Row.other (Row.other r2 e1 _) e2 _).alloc _).alloc _
  · exact ((Row.other (Row.store r4 0 _) e3 _).alloc _).alloc _
  · exact ((Row.store (Row.other r5 e3.symm _) 0 _).alloc _).alloc _
  · exact row_size (by rw [World.size_alloc, hs]) _ _
  · exact (row_size hs _ _).alloc _
end
theorem infoSe : (Tryd.prog.info? 55).map (fun i => (i.zero, i.size, i.bytes)) = some (some (.agg #[.int .i64 0, .int .i64 0, .int .i64 0, .int .i64 0, .int .i64 0, .int .i64 0]), 6, 48) := by kernel_rfl
theorem infoPt : (Tryd.prog.info? 81).map (fun i => (i.zero, i.size, i.bytes)) = some (some (.agg #[.int .i64 0, .int .i64 0, .int .i64 0, .int .i64 0, .int .i64 0, .int .i64 0]), 6, 48) := by kernel_rfl
theorem made6 (f : Nat → Int) (n : Nat) : madeCells (Value.agg #[.int .i64 0, .int .i64 0, .int .i64 0, .int .i64 0, .int .i64 0, .int .i64 0]).cells (n * 6) = (cel f (6 * n) 0).toArray := by
  rw [cel_zero, Nat.mul_comm]
  unfold madeCells
  apply Array.ext
  · simp
  · intro m h1 h2
    have key : ∀ k, k < 6 → ((Value.agg #[.int .i64 0, .int .i64 0, .int .i64 0, .int .i64 0, .int .i64 0, .int .i64 0]).cells)[k]! = .int .i64 0 := fun k hk => by
      rcases six hk with rfl | rfl | rfl | rfl | rfl | rfl <;> rfl
    have e : (Value.agg #[.int .i64 0, .int .i64 0, .int .i64 0, .int .i64 0, .int .i64 0, .int .i64 0]).cells.size = 6 := rfl
    rw [Array.getElem_map, Array.getElem_range, e, key _ (Nat.mod_lt _ (by omega))]
    simp
theorem run_make_se (f : Nat → Int) (n : Nat) (hn : n ≤ 1000) (w : World) : (Instr.makeSlice 46 (.int .i64 (n : Int)) (.int .i64 (n : Int))).run Tryd.prog w = .ok (.slice (some ⟨w.heap.size, 0, none⟩) n n) (w.alloc (.cells (cel f (6 * n) 0).toArray 55)) := by
  obtain ⟨i0, hi, hz0, hz1, hz2⟩ := info_parts infoSe
  have hr := run_make (P := Tryd.prog) w 46 55 i0 _ Tryd.underlying46 hi hz0 .i64 .i64 (n : Int) (n : Int) (by omega) (by omega) (by rw [hz2]; omega) (by omega)
  simp only [Int.toNat_natCast, hz1] at hr
  rw [hr, made6 f n]
theorem run_make_pt (f : Nat → Int) (n : Nat) (hn : n ≤ 1000) (w : World) : (Instr.makeSlice 47 (.int .i64 (n : Int)) (.int .i64 (n : Int))).run Tryd.prog w = .ok (.slice (some ⟨w.heap.size, 0, none⟩) n n) (w.alloc (.cells (cel f (6 * n) 0).toArray 81)) := by
  obtain ⟨i0, hi, hz0, hz1, hz2⟩ := info_parts infoPt
  have hr := run_make (P := Tryd.prog) w 47 81 i0 _ Tryd.underlying47 hi hz0 .i64 .i64 (n : Int) (n : Int) (by omega) (by omega) (by rw [hz2]; omega) (by omega)
  simp only [Int.toNat_natCast, hz1] at hr
  rw [hr, made6 f n]
/-- the frame in a round -/
abbrev brAct (n : Int) (l : List Se) (A1 : Option Addr) (c1 : Nat) (w : World) (K : Int) (bx bp bc b7 b8 i k : Nat) (c : Ci) : Act := { tmps := #[.int .i64 n, .slice A1 l.length c1, .pointer (some ⟨w.heap.size, 0, none⟩), undef, .pointer (some ⟨w.heap.size + 1, 0, none⟩), .pointer (some ⟨w.heap.size + 1 + 1, 0, none⟩), .int .i64 0, .pointer (some ⟨b7, 0, none⟩), .pointer (some ⟨b8, 0, none⟩), undef, undef, undef, .tuple #[.int .i64 K, .int .i64 0], .int .i64 n, .tuple #[.int .i64 K, .int .i64 0], .int .i64 K, .int .i64 0, .int .i64 0, .bool false, undef, .slice A1 l.length c1, .int .i64 0, .int .i64 0, .bool false, undef, .slice A1 l.length c1, .int .i64 (l.length : Int), .slice (some ⟨bx, 0, none⟩) l.length l.length, .slice A1 l.length c1, .int .i64 (l.length : Int), .slice (some ⟨bp, 0, none⟩) l.length l.length, .slice A1 l.length c1, .func (Fn.func 78) #[] #[.pointer (some ⟨bc, 0, none⟩)], .agg #[.int .i64 (i : Int), .int .i64 (k : Int)], .agg #[.int .i64 c.a, .int .i64 c.b], undef, undef, undef, undef, undef, undef, undef, undef, undef, undef, undef, undef, undef, undef, undef, undef, undef, undef, undef, undef, undef, undef, undef, undef, undef, undef, undef, undef, undef, undef, undef, undef, undef, undef], defers := [] }
set_option maxRecDepth 100000 in
set_option maxHeartbeats 8000000 in
theorem bare_main (n : Int) (l : List Se) (A1 : Option Addr) (c1 : Nat) (w : World) (hT : TabOK w) (hl : SlS w w.heap.size (.slice A1 l.length c1) l) (hs : secB n = true) (h3 : letE l = 0) :
    Calls Tryd.prog 32 #[.int .i64 n, .slice A1 l.length c1] w fun e w' => ∃ vx vp, e = .returned (.tuple #[vx, vp, .int .i64 0]) ∧ SlS w' w'.heap.size vx (l.map (bareS n)) ∧ SlP w' w'.heap.size vp (l.map (proofS n)) ∧ Below w.heap.size w w' := by
  have m1 := fun w => public_any n w
  have m2 := fun W (hb : Below w.heap.size w W) => letters_any l _ W ((hl.below hb).mono hb.size)
  rw [pubE_0 hs] at m1
  rw [h3] at m2
  obtain ⟨K, hK⟩ : ∃ K, pubC n = K := ⟨_, rfl⟩
  rw [hK] at m1
  have M1 := Lib.hid m1
  have M2 := Lib.hid m2
  have hl64 : l.length ≤ 64 := by unfold letE at h3; split at h3 <;> omega
  obtain ⟨W, hW, hB, hz, r2, r4, r5⟩ : ∃ W, (((w.alloc (.cells #[.int .i64 n] 3)).alloc (.cells #[.slice none 0 0] 46)).alloc (.cells #[.slice none 0 0] 47)) = W ∧ Below w.heap.size w W ∧ W.heap.size = w.heap.size + 1 + 1 + 1 ∧
      Row W w.heap.size 3 [.int .i64 n] ∧ Row W (w.heap.size + 1) 46 [.slice none 0 0] ∧ Row W (w.heap.size + 1 + 1) 47 [.slice none 0 0] :=
    ⟨_, rfl, (((Below.refl _ _).alloc (Nat.le_refl _) _).alloc (by simp) _).alloc (by simp; omega) _, by simp, ((Row.new w _ [.int .i64 n]).alloc _).alloc _, (row_size (by simp) _ [.slice none 0 0]).alloc _, row_size (by simp) _ [.slice none 0 0]⟩
  have HL := Lib.hid hl
  have HT := Lib.hid hT
  have HS := Lib.hid hs
  have H3 := Lib.hid h3
  have HBB := Lib.hid hB
  have hbb := Below.refl W.heap.size W
  have k2 := st1c r2
  have k4 := st1c r4
  have k5 := st1c r5
  have y4 := r4.frozen 0
  have y5 := r5.frozen 0
  clear m1 m2 hl hT hs h3 hK hB
  refine (callsIn_wide (n := 3)).1 ?_
  refine callsIn_of_wp_marks Tryd.func32 rfl trivial ?_ rfl
  simp only [Tryd.ntmps32, List.size_toArray, List.length_cons, List.length_nil, Nat.reduceAdd, Nat.reduceSub, Array.replicate_succ, Array.replicate_zero, List.push_toArray, List.append_toArray, List.nil_append, List.cons_append]
  gi_wp2_with (first
    | (gi_at_call 26; (with_reducible refine (callsIn_wide.2 (M1.out _)).mono ?_); rintro e w1 ⟨rfl, hb⟩; replace hbb := hbb.trans (hb.mono hbb.size); replace r2 := r2.below hb r2.lt; replace r4 := r4.below hb r4.lt; replace r5 := r5.below hb r5.lt; clear k2 k4 k5 y4 y5 hb; have k4 := st1c r4; have k5 := st1c r5; have y4 := r4.frozen 0; have y5 := r5.frozen 0)
    | (gi_at_call 56; (with_reducible refine (callsIn_wide.2 (M2.out _ (HBB.out.trans (hbb.mono HBB.out.size)))).mono ?_); rintro e w2 ⟨rfl, hb⟩; replace hbb := hbb.trans (hb.mono hbb.size); replace r2 := r2.below hb r2.lt; replace r4 := r4.below hb r4.lt; replace r5 := r5.below hb r5.lt; clear k4 k5 y4 y5 hb; have k4 := st1c r4; have k5 := st1c r5; have y4 := r4.frozen 0; have y5 := r5.frozen 0))
  clear k4 k5 y4 y5
  rename_i Q1 K1 HK1
  have key : ∀ (bx bp : Nat) (W' : World), BR w n l.length (seF (l.map (bareS n))) (ptF (l.map (proofS n))) bx bp 0 0 W' →
      K1 { tmps := #[.int .i64 n, .slice A1 l.length c1, .pointer (some ⟨w.heap.size, 0, none⟩), undef, .pointer (some ⟨w.heap.size + 1, 0, none⟩), .pointer (some ⟨w.heap.size + 1 + 1, 0, none⟩), .int .i64 0, undef, undef, undef, undef, undef, .tuple #[.int .i64 K, .int .i64 0], .int .i64 n, .tuple #[.int .i64 K, .int .i64 0], .int .i64 K, .int .i64 0, .int .i64 0, .bool false, undef, .slice A1 l.length c1, .int .i64 0, .int .i64 0, .bool false, undef, .slice A1 l.length c1, .int .i64 (l.length : Int), .slice (some ⟨bx, 0, none⟩) l.length l.length, .slice A1 l.length c1, .int .i64 (l.length : Int), .slice (some ⟨bp, 0, none⟩) l.length l.length, undef, undef, undef, undef, undef, undef, undef, undef, undef, undef, undef, undef, undef, undef, undef, undef, undef, undef, undef, undef, undef, undef, undef, undef, undef, undef, undef, undef, undef, undef, undef, undef, undef, undef, undef, undef, undef, undef], defers := [] } W' := by
    intro bx bp W3 hBR
    refine HK1 _ _ ?_
    clear HK1
    gi_wp2_with (gi_at_call 57; refine (callsIn_wide.2 (eciphers_any _ _ _ _)).mono ?_; rintro e w4 ⟨rfl, rfl⟩)
    have hC0 := hBR.below (below_alloc' W3 (.cells #[.slice A1 l.length c1] 46))
    have hbx := row_size rfl 46 [Value.slice A1 l.length c1] (w := W3)
    have hz3 : w.heap.size + 3 ≤ W3.heap.size := by have := hBR.r5.lt; omega
    have hz0 : (W3.alloc (.cells #[.slice A1 l.length c1] 46)).heap.size = W3.heap.size + 1 := by simp
    have hxl := hBR.rx.lt
    have hpl := hBR.rp.lt
    obtain ⟨W0, hW0⟩ : ∃ W0, W3.alloc (.cells #[.slice A1 l.length c1] 46) = W0 := ⟨_, rfl⟩
    replace hbx : Row W0 W3.heap.size 46 [.slice A1 l.length c1] := hW0 ▸ hbx
    rw [hW0] at hC0 hz0 ⊢
    clear hW0 hBR
    generalize W3.heap.size = bc at *
    have hyl : ∀ r, yB l A1 r → r < w.heap.size := by
      rintro r ⟨hp, o, ho⟩
      obtain ⟨_, A', c', hv, hE⟩ := HL.out
      obtain ⟨b, off, rfl, hb, _⟩ := hE hp
      injection hv with hv _ _
      rw [hv] at ho
      injection ho with ho
      injection ho with ho _ _
      omega
    have HYL := Lib.hid hyl
    clear hyl
    refine wpIn_rangeL (w := W0) rfl (by omega) (gf := 78) (lb := #[.pointer (some ⟨bc, 0, none⟩)]) rfl trivial (enters_of Tryd.func78 (by kernel_rfl) rfl)
      (places_seq l A1 c1 bc w.heap.size _ (by omega) 2 (by omega))
      (fun W hW => ⟨Row.keep hbx (hW.block _ (by omega)), (HL.out.below hC0.b).below (hW.mono (by omega))⟩) (fun h => ?hY) (fun h => h) (fun h => h)
      (fun v hv => by obtain ⟨p, _, rfl⟩ := List.mem_map.1 hv; rfl)
      (fun k W => BR w n l.length (seF (l.map (bareS n))) (ptF (l.map (proofS n))) bx bp k k W)
      (fun c _ W => False)
      (fun k W W' row h1 hg hr => h1.ab hg (fun r e => ((hr r e).resolve_left (fun h => h)).symm) (by omega) (by omega))
      (fun c k W W' row h1 hg hr => h1)
      hC0
      (fun j a' W => ∃ i k b9 b10 : Nat, j = 3 * i + k ∧ i < l.length ∧ k < 3 ∧ bc + 3 ≤ b9 ∧ bc + 3 ≤ b10 ∧ a' = brAct n l A1 c1 w K bx bp bc b9 b10 i k ((l.getD i default).get k) ∧ Row W b9 80 [.int .i64 (i : Int), .int .i64 (k : Int)] ∧ Row W b10 53 [.int .i64 ((l.getD i default).get k).a, .int .i64 ((l.getD i default).get k).b])
      (fun j a' _ W W' row ⟨i, k, b9, b10, e1, e2, e3, e4, e5, e6, e7, e8⟩ hg hr => ⟨i, k, b9, b10, e1, e2, e3, e4, e5, e6, e7.keep (hg.block _ e7.lt (fun e => by have := hr _ e.symm; omega)), e8.keep (hg.block _ e8.lt (fun e => by have := hr _ e.symm; omega))⟩) ?assign ?body ?done ?stop
    case hY =>
      have := HYL.out _ h
      have := hC0.b.size
      omega
    case assign =>
      intro lb j v W K hI hvv hsz hK
      obtain ⟨i, k, hj, hi, hk⟩ : ∃ i k, j = 3 * i + k ∧ i < l.length ∧ k < 3 := by
        have := (List.getElem?_eq_some_iff.1 hvv).1
        rw [plVals_length] at this
        exact ⟨j / 3, j % 3, by omega, by omega, by omega⟩
      subst hj
      rw [plVals_get l hi hk] at hvv
      injection hvv with hvv
      subst hvv
      obtain ⟨c, hc⟩ : ∃ c, (l.getD i default).get k = c := ⟨_, rfl⟩
      have HCC := Lib.hid hc
      rw [hc]
      unfold Ci.val
      clear hc
      have hzW : w.heap.size ≤ W.heap.size := by omega
      have hB2 := ((Below.refl W.heap.size W).alloc (Nat.le_refl _) (.cells #[.int .i64 (i : Int), .int .i64 (k : Int)] 80)).alloc (by simp) (.cells #[.int .i64 c.a, .int .i64 c.b] 53)
      have rp := (Row.new W 80 [.int .i64 (i : Int), .int .i64 (k : Int)]).alloc (.cells #[.int .i64 c.a, .int .i64 c.b] 53)
      have rc : Row ((W.alloc (.cells #[.int .i64 (i : Int), .int .i64 (k : Int)] 80)).alloc (.cells #[.int .i64 c.a, .int .i64 c.b] 53)) (W.heap.size + 1) 53 [.int .i64 c.a, .int .i64 c.b] := row_size (by simp) _ _
      gi_wp2
      refine hK _ _ (Kept.below hB2 (by omega) hB2.size) (SameOn.below hB2 (fun r hr => by have := HYL.out r hr; omega)) (hI.below hB2) ⟨i, k, W.heap.size, W.heap.size + 1, rfl, hi, hk, by omega, by omega, by rw [HCC.out], rp, by rw [HCC.out]; exact rc⟩
    case body =>
      rintro lb j v a' W hC ⟨i, k, b9, b10, rfl, hi, hk, hb9, hb10, rfl, r9, r10⟩ hvv hsz
      clear hvv
      have hokl := letE_ok HL.out H3.out hi
      have gx := seF_at (l.map (bareS n)) i k hk
      have gp := ptF_at (l.map (proofS n)) i k hk
      have gm1 : (l.map (bareS n)).getD i default = bareS n (l.getD i default) := by rw [List.getD_eq_getElem?_getD, List.getElem?_map, List.getD_eq_getElem?_getD, List.getElem?_eq_getElem hi]; rfl
      have gm2 : (l.map (proofS n)).getD i default = proofS n (l.getD i default) := by rw [List.getD_eq_getElem?_getD, List.getElem?_map, List.getD_eq_getElem?_getD, List.getElem?_eq_getElem hi]; rfl
      rw [gm1, bareS_get n _ hk] at gx
      rw [gm2, proofS_get n _ hk] at gp
      clear gm1 gm2
      obtain ⟨c, hc⟩ : ∃ c, (l.getD i default).get k = c := ⟨_, rfl⟩
      have hva : vld c.a = true := by rw [← hc]; exact (okC_iff.1 (okS_get hokl k)).1
      have hvb : vld c.b = true := by rw [← hc]; exact (okC_iff.1 (okS_get hokl k)).2
      rw [hc] at r10 gx gp ⊢
      unfold bareC at gx
      simp only [] at gx
      have n0 := fun W (hb : Below w.heap.size w W) => prove_any n c.a W (HT.out.below hb)
      have hpo : provOK n c.a = true := by unfold provOK; rw [HS.out, hva]; rfl
      rw [show provD n c.a = powC c.a n by unfold provD; rw [hpo]; rfl, show provR n c.a = provP n c.a by unfold provR; rw [hpo]; rfl, show provE n c.a = 0 by unfold provE; rw [HS.out, hva]; rfl] at n0
      obtain ⟨D, hD⟩ : ∃ D, powC c.a n = D := ⟨_, rfl⟩
      obtain ⟨P, hP⟩ : ∃ P, provP n c.a = P := ⟨_, rfl⟩
      rw [hD] at n0 gx
      rw [hP] at n0 gp
      obtain ⟨Y, hY⟩ : ∃ Y, powC D (-1) = Y := ⟨_, rfl⟩
      have n1 := fun w => epow_at D (-1) w
      have n2 := fun W => emul_two (y := Y) hvb W
      rw [hY] at n1 gx
      obtain ⟨M, hM⟩ : ∃ M, mulC c.b Y = M := ⟨_, rfl⟩
      rw [hM] at n2 gx
      unfold Pf.val at n0
      obtain ⟨pe, hpe⟩ : ∃ x, P.e = x := ⟨_, rfl⟩
      obtain ⟨ps, hps⟩ : ∃ x, P.s = x := ⟨_, rfl⟩
      rw [hpe, hps] at n0 gp
      have s1 : (0 : Int) ≤ i := by omega
      have s2 : (i : Int) < l.length := by omega
      have s3 : (0 : Int) ≤ k := by omega
      have s4 : (k : Int) < 3 := by omega
      have N0 := Lib.hid n0
      have N1 := Lib.hid n1
      have N2 := Lib.hid n2
      have GX := Lib.hid gx
      have GP := Lib.hid gp
      have hBw := hC.b
      have k2 := st1c hC.r2
      obtain ⟨d0, d1⟩ := st2 r10
      have HC := Lib.hid hC
      have R9 := Lib.hid r9
      have R10 := Lib.hid r10
      clear hC r9 r10 n0 n1 n2 gx gp hokl hc hva hvb hpo hD hP hY hM hpe hps
      refine wpIn_block ?_
      gi_wp2_with (gi_at_call 19; refine (callsIn_wide.2 (N0.out _ hBw)).mono ?_; rintro e w5 ⟨rfl, hb⟩)
      rename_i Q2 K2 HK2
      have HKK := Lib.hid HK2
      clear HK2
      have r11 := Row.new w5 34 [Value.int .i64 pe, .int .i64 ps]
      have hW5 : Below W.heap.size W (w5.alloc (.cells #[.int .i64 pe, .int .i64 ps] 34)) := hb.alloc hb.size _
      have hb11 := hb.size
      obtain ⟨W5, hW5e⟩ : ∃ W5, w5.alloc (.cells #[.int .i64 pe, .int .i64 ps] 34) = W5 := ⟨_, rfl⟩
      replace r11 : Row W5 w5.heap.size 34 [.int .i64 pe, .int .i64 ps] := hW5e ▸ r11
      rw [hW5e] at hW5 ⊢
      clear hW5e hb d0 d1 k2
      generalize w5.heap.size = b11 at *
      have hs7 : ∀ W', Below W5.heap.size W5 W' → W'.cell? ⟨w.heap.size + 1, 0, none⟩ = some (.slice (some ⟨bx, 0, none⟩) l.length l.length) ∧ W'.cell? ⟨b9, 0, none⟩ = some (.int .i64 (i : Int)) ∧ W'.cell? ⟨b9, 1, none⟩ = some (.int .i64 (k : Int)) ∧ W'.cell? ⟨b10, 0, none⟩ = some (.int .i64 c.a) ∧ W'.cell? ⟨b10, 1, none⟩ = some (.int .i64 c.b) := fun W' hW' => by
        have hWW := hW5.trans (hW'.mono hW5.size)
        have g4 := st1c (HC.out.below hWW).r4
        obtain ⟨g0, g1⟩ := st2 (R9.out.below hWW R9.out.lt)
        obtain ⟨g2, g3⟩ := st2 (R10.out.below hWW R10.out.lt)
        exact ⟨g4, g0, g1, g2, g3⟩
      have HS7 := Lib.hid hs7
      have HW5 := Lib.hid hW5
      have R11 := Lib.hid r11
      clear hs7 r11 hW5
      refine wpIn_region_ordT 15 [(1, 0), (1, 1), (1, 2), (1, 3), (1, 4), (1, 5), (1, 6), (1, 7), (1, 8), (1, 9), (1, 14), (2, 10), (2, 11), (2, 12), (2, 13)] (fun W' => W'.cell? ⟨w.heap.size + 1, 0, none⟩ = some (.slice (some ⟨bx, 0, none⟩) l.length l.length) ∧ W'.cell? ⟨b9, 0, none⟩ = some (.int .i64 (i : Int)) ∧ W'.cell? ⟨b9, 1, none⟩ = some (.int .i64 (k : Int)) ∧ W'.cell? ⟨b10, 0, none⟩ = some (.int .i64 c.a) ∧ W'.cell? ⟨b10, 1, none⟩ = some (.int .i64 c.b)) (by kernel_rfl) (by kernel_rfl) (fun ⟨_, _, h⟩ => h) (fun _ _ d _ _ h => by cases d <;> exact h) (HS7.out _ (Below.refl _ _).drew) ?_
      have hB5 := (Below.refl W5.heap.size W5).drew
      generalize W5.drew = W6 at hB5 ⊢
      iterate 11
        refine wpOrd_take (v := ?_) rfl (by rfl) (fun w hSw => ?_) ?_
        rotate_left 1
        · obtain ⟨k0, k1, k2, k3, k4⟩ := hSw
          go_simp
          with_reducible rfl
        simp only [Act.put, List.setIfInBounds_toArray, List.set_cons_zero, List.set_cons_succ]
      refine wpOrd_step rfl (fun K hK => ⟨by rfl, ?_⟩)
      go_simp
      go_at_call 43
      refine (N1.out _).mono ?_
      rintro e w7 ⟨rfl, hb⟩
      replace hB5 := hB5.trans (hb.mono hB5.size)
      refine hK _ _ (HS7.out _ hB5) ?_
      clear hK K hb
      try simp only [Act.put, List.setIfInBounds_toArray, List.set_cons_zero, List.set_cons_succ]
      refine wpOrd_step rfl (fun K hK => ⟨by rfl, ?_⟩)
      go_simp
      refine hK _ _ (HS7.out _ (hB5.alloc hB5.size _)) ?_
      clear hK K
      try simp only [Act.put, List.setIfInBounds_toArray, List.set_cons_zero, List.set_cons_succ]
      refine wpOrd_step rfl (fun K hK => ⟨by rfl, ?_⟩)
      go_simp
      go_at_call 52
      refine (N2.out _).mono ?_
      rintro e w8 ⟨rfl, hb⟩
      replace hB5 := hB5.trans (hb.mono hB5.size)
      refine hK _ _ (HS7.out _ hB5) ?_
      clear hK K hb
      try simp only [Act.put, List.setIfInBounds_toArray, List.set_cons_zero, List.set_cons_succ]
      refine wpOrd_step rfl (fun K hK => ⟨by rfl, ?_⟩)
      go_simp
      refine hK _ _ (HS7.out _ hB5) ?_
      clear hK K
      try simp only [Act.put, List.setIfInBounds_toArray, List.set_cons_zero, List.set_cons_succ]
      refine wpOrd_nil ?_
      simp only [List.drop_succ_cons, List.drop_zero]
      have hW8 : Below W.heap.size W w8 := HW5.out.trans (hB5.mono HW5.out.size)
      have hC8 := HC.out.below hW8
      have q0 := hC8.cx (m := i * 6 + k * 2) (by omega)
      have q1 := hC8.cx (m := i * 6 + k * 2 + 1) (by omega)
      have y0 := hC8.rx.frozen (i * 6 + k * 2)
      have y1 := hC8.rx.frozen (i * 6 + k * 2 + 1)
      have hbxl := hC8.rx.lt
      have hj6 : 2 * (3 * i + k) + 1 < 6 * l.length := by omega
      have hC9 := hC8.setx hj6 (m := i * 6 + k * 2) (by omega) GX.out.1 GX.out.2
      have HC9 := Lib.hid hC9
      have HB5 := Lib.hid hB5
      have HB5b := hB5
      have HW8 := Lib.hid hW8
      generalize hv0 : (if i * 6 + k * 2 < 2 * (3 * i + k) then seF (l.map (bareS n)) (i * 6 + k * 2) else 0) = v0 at q0
      generalize hv1 : (if i * 6 + k * 2 + 1 < 2 * (3 * i + k) then seF (l.map (bareS n)) (i * 6 + k * 2 + 1) else 0) = v1 at q1
      clear hC8 hC9 hB5 hW8 hv0 hv1
      go_wp2_with fail
      refine HKK.out _ _ ?_
      clear HKK K2 q0 q1 y0 y1 hbxl HS7 HB5
      have hbxc : bx < bc := by omega
      have e9 : b9 ≠ bx := by omega
      have e11 : b11 ≠ bx := by omega
      have r9 := Row.other (Row.other (R9.out.below HW8.out R9.out.lt) (p := ⟨bx, i * 6 + k * 2, none⟩) e9 (.int .i64 c.a)) (p := ⟨bx, i * 6 + k * 2 + 1, none⟩) e9 (.int .i64 M)
      have r11 := Row.other (Row.other (R11.out.below HB5b R11.out.lt) (p := ⟨bx, i * 6 + k * 2, none⟩) e11 (.int .i64 c.a)) (p := ⟨bx, i * 6 + k * 2 + 1, none⟩) e11 (.int .i64 M)
      have hkp : Kept W0.heap.size W ((w8.setCell ⟨bx, i * 6 + k * 2, none⟩ (.int .i64 c.a)).setCell ⟨bx, i * 6 + k * 2 + 1, none⟩ (.int .i64 M)) := ((Kept.below HW8.out (by omega) HW8.out.size).trans (Kept.setCell _ _ (by simp only []; omega) (by simp only []; omega))).trans (Kept.setCell _ _ (by simp only []; omega) (by simp only []; omega))
      have hso : SameOn (yB l A1) W ((w8.setCell ⟨bx, i * 6 + k * 2, none⟩ (.int .i64 c.a)).setCell ⟨bx, i * 6 + k * 2 + 1, none⟩ (.int .i64 M)) := fun r hr => by
        have h1 := HYL.out r hr
        have h2 := HC9.out.x1
        rw [Below.heap_setCell _ _ _ r (by simp only []; omega), Below.heap_setCell _ _ _ r (by simp only []; omega)]
        exact HW8.out.block r (by omega)
      have hC9 := HC9.out
      clear HC9 HW8 R11 R10 R9 HC
      obtain ⟨V, hV⟩ : ∃ V, (w8.setCell ⟨bx, i * 6 + k * 2, none⟩ (.int .i64 c.a)).setCell ⟨bx, i * 6 + k * 2 + 1, none⟩ (.int .i64 M) = V := ⟨_, rfl⟩
      rw [hV] at r9 r11 hkp hso hC9 ⊢
      clear hV
      have hs13 : ∀ W', Below V.heap.size V W' → W'.cell? ⟨w.heap.size + 1 + 1, 0, none⟩ = some (.slice (some ⟨bp, 0, none⟩) l.length l.length) ∧ W'.cell? ⟨b9, 0, none⟩ = some (.int .i64 (i : Int)) ∧ W'.cell? ⟨b9, 1, none⟩ = some (.int .i64 (k : Int)) ∧ W'.cell? ⟨b11, 0, none⟩ = some (.int .i64 pe) ∧ W'.cell? ⟨b11, 1, none⟩ = some (.int .i64 ps) := fun W' hW' => by
        have g5 := st1c (hC9.below hW').r5
        obtain ⟨g0, g1⟩ := st2 (r9.below hW' r9.lt)
        obtain ⟨g2, g3⟩ := st2 (r11.below hW' r11.lt)
        exact ⟨g5, g0, g1, g2, g3⟩
      have HS := Lib.hid hs13
      have HC9 := Lib.hid hC9
      have HKP := Lib.hid hkp
      have HSO := Lib.hid hso
      clear hs13 hC9 r9 r11 hkp hso
      refine wpIn_region_ordT 7 [(1, 0), (1, 1), (1, 2), (1, 3), (1, 4), (1, 5), (2, 6)] (fun W' => W'.cell? ⟨w.heap.size + 1 + 1, 0, none⟩ = some (.slice (some ⟨bp, 0, none⟩) l.length l.length) ∧ W'.cell? ⟨b9, 0, none⟩ = some (.int .i64 (i : Int)) ∧ W'.cell? ⟨b9, 1, none⟩ = some (.int .i64 (k : Int)) ∧ W'.cell? ⟨b11, 0, none⟩ = some (.int .i64 pe) ∧ W'.cell? ⟨b11, 1, none⟩ = some (.int .i64 ps)) (by kernel_rfl) (by kernel_rfl) (fun ⟨_, _, h⟩ => h) (fun _ _ d _ _ h => by cases d <;> exact h) (HS.out _ (Below.refl _ _).drew) ?_
      have hB5 := (Below.refl V.heap.size V).drew
      generalize V.drew = W6 at hB5 ⊢
      iterate 6
        refine wpOrd_take (v := ?_) rfl (by rfl) (fun w hSw => ?_) ?_
        rotate_left 1
        · obtain ⟨k0, k1, k2, k3, k4⟩ := hSw
          go_simp
          with_reducible rfl
        simp only [Act.put, List.setIfInBounds_toArray, List.set_cons_zero, List.set_cons_succ]
      refine wpOrd_step rfl (fun K hK => ⟨by rfl, ?_⟩)
      go_simp
      refine hK _ _ (HS.out _ hB5) ?_
      clear hK K
      try simp only [Act.put, List.setIfInBounds_toArray, List.set_cons_zero, List.set_cons_succ]
      refine wpOrd_nil ?_
      simp only [List.drop_succ_cons, List.drop_zero]
      have hC8 := HC9.out.below hB5
      have q0 := hC8.cp (m := i * 6 + k * 2) (by omega)
      have q1 := hC8.cp (m := i * 6 + k * 2 + 1) (by omega)
      have y0 := hC8.rp.frozen (i * 6 + k * 2)
      have y1 := hC8.rp.frozen (i * 6 + k * 2 + 1)
      have hbpl2 := hC8.rp.lt
      have hC7 := hC8.setp hj6 (m := i * 6 + k * 2) (by omega) GP.out.1 GP.out.2
      have hbp1 := hC8.x2
      have hVs := HKP.out.size
      have hkp : Kept W0.heap.size W ((W6.setCell ⟨bp, i * 6 + k * 2, none⟩ (.int .i64 pe)).setCell ⟨bp, i * 6 + k * 2 + 1, none⟩ (.int .i64 ps)) := ((HKP.out.trans (Kept.below hB5 (by omega) hB5.size)).trans (Kept.setCell _ _ (by simp only []; omega) (by simp only []; omega))).trans (Kept.setCell _ _ (by simp only []; omega) (by simp only []; omega))
      have hso : SameOn (yB l A1) W ((W6.setCell ⟨bp, i * 6 + k * 2, none⟩ (.int .i64 pe)).setCell ⟨bp, i * 6 + k * 2 + 1, none⟩ (.int .i64 ps)) := fun r hr => by
        have h1 := HYL.out r hr
        rw [Below.heap_setCell _ _ _ r (by simp only []; omega), Below.heap_setCell _ _ _ r (by simp only []; omega)]
        exact (hB5.block r (by omega)).trans (HSO.out r hr)
      have HK2 := Lib.hid hkp
      have HS2 := Lib.hid hso
      have HC7 := Lib.hid hC7
      generalize (if i * 6 + k * 2 < 2 * (3 * i + k) then ptF (l.map (proofS n)) (i * 6 + k * 2) else 0) = v0 at q0
      generalize (if i * 6 + k * 2 + 1 < 2 * (3 * i + k) then ptF (l.map (proofS n)) (i * 6 + k * 2 + 1) else 0) = v1 at q1
      clear hC8 hC7 hkp hso HKP HSO HC9 HS
      go_wp2_with fail
      exact ⟨HK2.out, HS2.out, HC7.out⟩
    case done =>
      rintro W hC hsz hD
      rw [plVals_length] at hC
      have k4 := st1c hC.r4
      have k5 := st1c hC.r5
      have y4 := hC.r4.frozen 0
      have y5 := hC.r5.frozen 0
      have hz4 := hC.r4.lt
      have hz5 := hC.r5.lt
      have HCC := Lib.hid hC
      clear hC
      gi_wp2
      rename_i K3 HK3
      have HKK := Lib.hid HK3
      clear HK3
      have hbc : w.heap.size + 3 ≤ bc := by have := HCC.out.x1; omega
      have hD' : (((W.setCell ⟨w.heap.size + 1, 0, none⟩ (.slice (some ⟨bx, 0, none⟩) l.length l.length)).setCell ⟨w.heap.size + 1 + 1, 0, none⟩ (.slice (some ⟨bp, 0, none⟩) l.length l.length)).drew).heap[W0.heap.size]? = some (.deferred (some [])) := ((Below.heap_setCell _ _ _ _ (by simp only []; omega)).trans (Below.heap_setCell _ _ _ _ (by simp only []; omega))).trans hD
      have e1 : w.heap.size ≠ w.heap.size + 1 := by omega
      have e2 : w.heap.size + 1 ≠ w.heap.size + 1 + 1 := by omega
      have hfin : SlS (((W.setCell ⟨w.heap.size + 1, 0, none⟩ (.slice (some ⟨bx, 0, none⟩) l.length l.length)).setCell ⟨w.heap.size + 1 + 1, 0, none⟩ (.slice (some ⟨bp, 0, none⟩) l.length l.length)).drew.putObj W0.heap.size (.deferred none)) W.heap.size (.slice (some ⟨bx, 0, none⟩) l.length l.length) (l.map (bareS n)) ∧
          SlP (((W.setCell ⟨w.heap.size + 1, 0, none⟩ (.slice (some ⟨bx, 0, none⟩) l.length l.length)).setCell ⟨w.heap.size + 1 + 1, 0, none⟩ (.slice (some ⟨bp, 0, none⟩) l.length l.length)).drew.putObj W0.heap.size (.deferred none)) W.heap.size (.slice (some ⟨bp, 0, none⟩) l.length l.length) (l.map (proofS n)) ∧
          Below w.heap.size w (((W.setCell ⟨w.heap.size + 1, 0, none⟩ (.slice (some ⟨bx, 0, none⟩) l.length l.length)).setCell ⟨w.heap.size + 1 + 1, 0, none⟩ (.slice (some ⟨bp, 0, none⟩) l.length l.length)).drew.putObj W0.heap.size (.deferred none)) ∧
          W.heap.size ≤ (((W.setCell ⟨w.heap.size + 1, 0, none⟩ (.slice (some ⟨bx, 0, none⟩) l.length l.length)).setCell ⟨w.heap.size + 1 + 1, 0, none⟩ (.slice (some ⟨bp, 0, none⟩) l.length l.length)).drew.putObj W0.heap.size (.deferred none)).heap.size ∧
          (((W.setCell ⟨w.heap.size + 1, 0, none⟩ (.slice (some ⟨bx, 0, none⟩) l.length l.length)).setCell ⟨w.heap.size + 1 + 1, 0, none⟩ (.slice (some ⟨bp, 0, none⟩) l.length l.length)).drew.putObj W0.heap.size (.deferred none)).cell? ⟨w.heap.size + 1, 0, none⟩ = some (.slice (some ⟨bx, 0, none⟩) l.length l.length) ∧
          (((W.setCell ⟨w.heap.size + 1, 0, none⟩ (.slice (some ⟨bx, 0, none⟩) l.length l.length)).setCell ⟨w.heap.size + 1 + 1, 0, none⟩ (.slice (some ⟨bp, 0, none⟩) l.length l.length)).drew.putObj W0.heap.size (.deferred none)).cell? ⟨w.heap.size + 1 + 1, 0, none⟩ = some (.slice (some ⟨bp, 0, none⟩) l.length l.length) := by
        have hx1 := HCC.out.x1
        have hx2 := HCC.out.x2
        have hB3 := (((HCC.out.b.setCell (p := ⟨w.heap.size + 1, 0, none⟩) (by simp only []; omega) (.slice (some ⟨bx, 0, none⟩) l.length l.length)).setCell (p := ⟨w.heap.size + 1 + 1, 0, none⟩) (by simp only []; omega) (.slice (some ⟨bp, 0, none⟩) l.length l.length))).drew
        have q4 := Row.other (Row.store HCC.out.r4 0 (.slice (some ⟨bx, 0, none⟩) l.length l.length)) (p := ⟨w.heap.size + 1 + 1, 0, none⟩) e2 (.slice (some ⟨bp, 0, none⟩) l.length l.length)
        have q5 := Row.store (Row.other HCC.out.r5 (p := ⟨w.heap.size + 1, 0, none⟩) e2.symm (.slice (some ⟨bx, 0, none⟩) l.length l.length)) 0 (.slice (some ⟨bp, 0, none⟩) l.length l.length)
        have qx := Row.other (Row.other HCC.out.rx (p := ⟨w.heap.size + 1, 0, none⟩) (by simp only []; omega) (.slice (some ⟨bx, 0, none⟩) l.length l.length)) (p := ⟨w.heap.size + 1 + 1, 0, none⟩) (by simp only []; omega) (.slice (some ⟨bp, 0, none⟩) l.length l.length)
        have qp := Row.other (Row.other HCC.out.rp (p := ⟨w.heap.size + 1, 0, none⟩) (by simp only []; omega) (.slice (some ⟨bx, 0, none⟩) l.length l.length)) (p := ⟨w.heap.size + 1 + 1, 0, none⟩) (by simp only []; omega) (.slice (some ⟨bp, 0, none⟩) l.length l.length)
        have hzs : ((W.setCell ⟨w.heap.size + 1, 0, none⟩ (.slice (some ⟨bx, 0, none⟩) l.length l.length)).setCell ⟨w.heap.size + 1 + 1, 0, none⟩ (.slice (some ⟨bp, 0, none⟩) l.length l.length)).heap.size = W.heap.size := by simp [World.setCell]
        generalize (W.setCell ⟨w.heap.size + 1, 0, none⟩ (.slice (some ⟨bx, 0, none⟩) l.length l.length)).setCell ⟨w.heap.size + 1 + 1, 0, none⟩ (.slice (some ⟨bp, 0, none⟩) l.length l.length) = V at *
        have gp : V.drew.grownBy (V.drew.putObj W0.heap.size (.deferred none)) (some W0.heap.size) := grownBy_putObj' V.drew W0.heap.size (.deferred none)
        have hkk : ∀ b : Nat, b < bc → (V.drew.putObj W0.heap.size (.deferred none)).heap[b]? = V.heap[b]? := fun b hb => gp.block b (by show b < V.heap.size; omega) (by simp; omega)
        have lm : (l.map (bareS n)).length = l.length := List.length_map _
        have lm2 : (l.map (proofS n)).length = l.length := List.length_map _
        have a1 := cel_sl (c := l.length) (B0 := W.heap.size) (w := V.drew.putObj W0.heap.size (.deferred none)) (l.map (bareS n)) (Row.keep (by rw [lm]; exact qx) (hkk _ hxl)) (by rw [lm]; omega) (by omega)
        have a2 := cel_slP (c := l.length) (B0 := W.heap.size) (w := V.drew.putObj W0.heap.size (.deferred none)) (l.map (proofS n)) (Row.keep (by rw [lm2]; exact qp) (hkk _ hpl)) (by rw [lm2]; omega) (by omega)
        rw [lm] at a1
        rw [lm2] at a2
        exact ⟨a1, a2, hB3.grown gp hB3.size (fun r e => by cases e; omega), by rw [← hzs]; exact gp.size, st1c (q4.keep (hkk _ (by omega))), st1c (q5.keep (hkk _ (by omega)))⟩
      have HF := Lib.hid hfin
      clear hfin
      refine wpIn_wide.2 ?_
      refine wp_mono (Q := Exit.then K3 (fun _ _ _ => False)) ?_ (fun e a w h => by cases e <;> first | exact h | exact h.elim)
      go_region
      all_goals
        refine HKK.out _ _ ?_
        clear HKK
        gi_wp2
        refine ⟨by simp, .inl ⟨_, _, rfl, run_takeDeferred hD', ?_⟩⟩
        obtain ⟨a1, a2, a3, a4, a5, a6⟩ := HF.out
        refine ⟨.tuple #[.slice (some ⟨bx, 0, none⟩) l.length l.length, .slice (some ⟨bp, 0, none⟩) l.length l.length, .int .i64 0], ?_, _, _, rfl, a1.mono a4, a2.mono a4, a3⟩
        simp [results, Tryd.f32, go_sem, a5, a6]
    case stop =>
      rintro c j W hj h1
      exact h1.elim
  have KEY := Lib.hid key
  clear key HK1
  have k4 := st1c r4
  have k5 := st1c r5
  have y4 := r4.frozen 0
  have y5 := r5.frozen 0
  have hz2 : w.heap.size + 1 + 1 < w2.heap.size := r5.lt
  have hz1 : w.heap.size + 1 < w2.heap.size := r4.lt
  have s1 : (0 : Int) ≤ (l.length : Int) := by omega
  have s2 : (l.length : Int) ≤ 64 := by omega
  have f4 : ∀ o o', ((w2.alloc o).alloc o').cell? ⟨w.heap.size + 1, 0, none⟩ = some (.slice none 0 0) := fun o o' => st1c ((r4.alloc o).alloc o')
  have f5 : ∀ o o', ((w2.alloc o).alloc o').cell? ⟨w.heap.size + 1 + 1, 0, none⟩ = some (.slice none 0 0) := fun o o' => st1c ((r5.alloc o).alloc o')
  have g4 : ∀ o o', ((w2.alloc o).alloc o').frozen? ⟨w.heap.size + 1, 0, none⟩ = false := fun o o' => ((r4.alloc o).alloc o').frozen 0
  have g5 : ∀ o o', ((w2.alloc o).alloc o').frozen? ⟨w.heap.size + 1 + 1, 0, none⟩ = false := fun o o' => ((r5.alloc o).alloc o').frozen 0
  have f4' : ∀ o, (w2.alloc o).cell? ⟨w.heap.size + 1, 0, none⟩ = some (.slice none 0 0) := fun o => st1c (r4.alloc o)
  have g4' : ∀ o, (w2.alloc o).frozen? ⟨w.heap.size + 1, 0, none⟩ = false := fun o => (r4.alloc o).frozen 0
  have mk1 := fun w => run_make_se (seF (l.map (bareS n))) l.length (by omega) w
  have mk2 := fun w => run_make_pt (ptF (l.map (proofS n))) l.length (by omega) w
  have hBw := HBB.out.trans (hbb.mono HBB.out.size)
  have st1 := BR.start1 (len := l.length) (fx := seF (l.map (bareS n))) (fp := ptF (l.map (proofS n))) hBw (by omega) r2 r4 r5
  have st2 := BR.start2 (len := l.length) (fx := seF (l.map (bareS n))) (fp := ptF (l.map (proofS n))) hBw (by omega) r2 r4 r5
  have st3 := BR.start3 (len := l.length) (fx := seF (l.map (bareS n))) (fp := ptF (l.map (proofS n))) hBw (by omega) r2 r4 r5
  have st4 := BR.start4 (len := l.length) (fx := seF (l.map (bareS n))) (fp := ptF (l.map (proofS n))) hBw (by omega) r2 r4 r5
  have key1 := KEY.out _ _ _ st1
  have key2 := KEY.out _ _ _ st2
  have key3 := KEY.out _ _ _ st3
  have key4 := KEY.out _ _ _ st4
  have KY1 := Lib.hid key1
  have KY2 := Lib.hid key2
  have KY3 := Lib.hid key3
  have KY4 := Lib.hid key4
  clear st1 st2 st3 st4 key1 key2 key3 key4 KEY
  generalize cel (seF (l.map (bareS n))) (6 * l.length) 0 = cx at *
  generalize cel (ptF (l.map (proofS n))) (6 * l.length) 0 = cp at *
  refine wpIn_wide.2 ?_
  refine wp_mono (Q := Exit.then K1 (fun _ _ _ => False)) ?_ (fun e a w h => by cases e <;> first | exact h | exact h.elim)
  go_region
  all_goals first | exact KY1.out | exact KY2.out | exact KY3.out | exact KY4.out
end Go.Proofs.YtaheibbbdglcmaaDoor

set_option linter.unusedSimpArgs false
namespace Go.Proofs.YtaheibbbdglcmaaDoor
open Fk
def eqCi (s t : Ci) : Bool := s.a == t.a && s.b == t.b
def eqSe (s t : Se) : Bool := eqCi s.x t.x && (eqCi s.y t.y && eqCi s.z t.z)
def eqTr (s t : Tr) : Bool := s.p == t.p && (s.q == t.q && s.r == t.r)
theorem runC (d : Nat) (s t : Ci) (w : World) : (Op.equalIn (d + 1 + 1) 53 s.val t.val).run Tryd.prog w = .ok (eqCi s t) w := by
  have u3 := Tryd.underlying3
  have a3 := Tryd.isAgg3
  have z3 := Tryd.sizeOf3
  have hS : Tryd.prog.underlying 53 = some (.struct (Tryd.prog.fieldsOf 53)) := by kernel_rfl
  unfold Ci.val eqCi
  rw [run_equalIn_struct w (d + 1) 53 _ _ hS (by kernel_rfl)]
  simp only [Program.fieldsOf, Tryd.underlying53]
  go_simp
  by_cases h1 : s.a = t.a <;> by_cases h2 : s.b = t.b <;> simp [h1, h2]
theorem runT (s t : Tr) (w : World) : (Op.equalIn 10000 50 s.val t.val).run Tryd.prog w = .ok (eqTr s t) w := by
  have u3 := Tryd.underlying3
  have a3 := Tryd.isAgg3
  have z3 := Tryd.sizeOf3
  unfold Tr.val eqTr
  rw [show (10000 : Nat) = 9999 + 1 from rfl, Op.equalIn]
  simp only [Sem.run_bind, run_underlying Tryd.underlying50, Result.andThen_ok]
  simp only [Std.Legacy.Range.forIn_eq_forIn_range', Std.Legacy.Range.size, Nat.sub_zero, Nat.add_sub_cancel, Nat.div_one, List.range'_succ, List.range'_zero, List.forIn_cons, List.forIn_nil]
  go_simp
  by_cases h1 : s.p = t.p <;> by_cases h2 : s.q = t.q <;> by_cases h3 : s.r = t.r <;> simp [h1, h2, h3]
theorem partC (cs : Array Value) (k : Nat) (c : Ci) (h : cs.extract k (k + 2) = #[.int .i64 c.a, .int .i64 c.b]) (w : World) : (part 53 cs k).run Tryd.prog w = .ok c.val w := by
  have a3 := Tryd.isAgg53
  have z3 := Tryd.sizeOf53
  simp [part, a3, z3, go_sem, h, Ci.val]
theorem runS (s t : Se) (w : World) : (Op.equalIn 10000 55 s.val t.val).run Tryd.prog w = .ok (eqSe s t) w := by
  have z3 := Tryd.sizeOf53
  have e1 := fun w => runC 9997 s.x t.x w
  have e2 := fun w => runC 9997 s.y t.y w
  have e3 := fun w => runC 9997 s.z t.z w
  have hq : eqSe s t = (eqCi s.x t.x && (eqCi s.y t.y && eqCi s.z t.z)) := rfl
  rw [hq]
  clear hq
  unfold Se.val
  generalize eqCi s.x t.x = b1 at *
  generalize eqCi s.y t.y = b2 at *
  generalize eqCi s.z t.z = b3 at *
  rw [show (10000 : Nat) = 9999 + 1 from rfl, Op.equalIn]
  simp only [Sem.run_bind, run_underlying Tryd.underlying55, Result.andThen_ok]
  simp only [Std.Legacy.Range.forIn_eq_forIn_range', Std.Legacy.Range.size, Nat.sub_zero, Nat.add_sub_cancel, Nat.div_one, List.range'_succ, List.range'_zero, List.forIn_cons, List.forIn_nil]
  have h1 := fun w => partC (s.cells.toArray) 0 s.x rfl w
  have h2 := fun w => partC (s.cells.toArray) 2 s.y rfl w
  have h3 := fun w => partC (s.cells.toArray) 4 s.z rfl w
  have k1 := fun w => partC (t.cells.toArray) 0 t.x rfl w
  have k2 := fun w => partC (t.cells.toArray) 2 t.y rfl w
  have k3 := fun w => partC (t.cells.toArray) 4 t.z rfl w
  simp only [Se.cells] at h1 h2 h3 k1 k2 k3
  rw [show (9999 : Nat) = 9997 + 1 + 1 from rfl]
  cases b1 <;> cases b2 <;> cases b3 <;> simp only [z3, Result.andThen_ok, Nat.zero_mul, Nat.zero_add, Nat.one_mul, Nat.reduceMul, Nat.reduceAdd, Sem.run_bind, h1, h2, h3, k1, k2, k3, e1, e2, e3, Bool.not_true, Bool.not_false, Bool.false_eq_true, if_true, if_false, Sem.run_pure, Bool.and_self, Bool.and_true, Bool.and_false, Bool.true_and, Bool.false_and]
theorem eqCi_self (c : Ci) : eqCi c c = true := by simp [eqCi]
theorem eqSe_self (s : Se) : eqSe s s = true := by simp [eqSe, eqCi]
theorem eqTr_self (s : Tr) : eqTr s s = true := by simp [eqTr]
end Go.Proofs.YtaheibbbdglcmaaDoor

set_option linter.unusedSimpArgs false
set_option linter.unusedVariables false
namespace Go.Proofs.YtaheibbbdglcmaaDoor
open Go.RowKit Go.Shelf Fk Sha
/-! What Bare takes off is accepted; Bare whole; the examples' calls. -/
theorem okC_bare {n : Int} {k : Nat} {c : Ci} (h : okC c = true) : okC (bareC n k c) = true := by
  obtain ⟨h1, h2⟩ := okC_iff.1 h
  exact okC_iff.2 ⟨h1, vld_mul h2 (vld_powC (vld_powC h1 _) _)⟩
theorem okS_bare {n : Int} {s : Se} (h : okS s = true) : okS (bareS n s) = true := by
  obtain ⟨h1, h2, h3⟩ := okS_iff.1 h
  exact okS_iff.2 ⟨okC_bare (k := 0) h1, okC_bare (k := 1) h2, okC_bare (k := 2) h3⟩
theorem letE_0 {l : List Se} : letE l = 0 ↔ l.length ≤ 64 ∧ l.all okS = true := by
  unfold letE
  by_cases h1 : 64 < l.length
  · rw [if_pos h1]; constructor
    · intro h; cases h
    · intro h; omega
  · rw [if_neg h1]
    cases h2 : l.all okS with
    | true => simp; omega
    | false => simp
theorem letE_bare {n : Int} {l : List Se} (h : letE l = 0) : letE (l.map (bareS n)) = 0 := by
  obtain ⟨h1, h2⟩ := letE_0.1 h
  refine letE_0.2 ⟨by rw [List.length_map]; exact h1, ?_⟩
  rw [List.all_eq_true] at h2 ⊢
  intro x hx
  obtain ⟨y, hy, rfl⟩ := List.mem_map.1 hx
  exact okS_bare (h2 y hy)
theorem map_getD {α β : Type} [Inhabited α] [Inhabited β] (f : α → β) {l : List α} {i : Nat} (hi : i < l.length) : (l.map f).getD i default = f (l.getD i default) := by
  rw [List.getD_eq_getElem?_getD, List.getElem?_map, List.getD_eq_getElem?_getD, List.getElem?_eq_getElem hi]; rfl
theorem bare_back {b d : Int} (hb : vld b = true) (hd : vld d = true) : mulC b (powC (mulC b (powC d (-1))) (-1)) = d := by
  have h1 := vld_powC hd (-1)
  have h2 := vld_powC hb (-1)
  rw [mul_pow' hb h1, pow_mul' hd, show (-1 : Int) * -1 = 1 by decide, pow_1 hd, ← mul_assoc' hb h2 hd, mul_inv' hb, one_mul' hd]
theorem bare_right {n : Int} {l : List Se} (h : letE l = 0) : cbB (powC 4 n) l (l.map (bareS n)) (l.map (proofS n)) = true := by
  unfold cbB cbHd
  rw [vld_powC vld_4 n, List.length_map, List.length_map, h, letE_bare h]
  simp only [decide_true, Bool.true_and]
  rw [List.all_eq_true]
  intro j hj
  have hj' := List.mem_range.1 hj
  have hi : j / 3 < l.length := by omega
  have hok : okC ((l.getD (j / 3) default).get (j % 3)) = true := by
    refine okS_get ?_ _
    have h2 := (letE_0.1 h).2
    rw [List.all_eq_true] at h2
    refine h2 _ ?_
    rw [List.getD_eq_getElem?_getD, List.getElem?_eq_getElem hi]; exact List.getElem_mem _
  obtain ⟨ha, hb⟩ := okC_iff.1 hok
  unfold plOK
  rw [map_getD _ hi, map_getD _ hi, bareS_get n _ (Nat.mod_lt _ (by omega)), proofS_get n _ (Nat.mod_lt _ (by omega))]
  generalize (l.getD (j / 3) default).get (j % 3) = c at *
  unfold bareC
  simp only []
  rw [bare_back hb (vld_powC ha n), prov_right ha]
  simp
/-- Bare whole -/
theorem bare_any (n : Int) (l : List Se) (A1 : Option Addr) (c1 : Nat) (w : World) (hT : TabOK w) (hl : SlS w w.heap.size (.slice A1 l.length c1) l) :
    Calls Tryd.prog 32 #[.int .i64 n, .slice A1 l.length c1] w fun e w' => Below w.heap.size w w' ∧
      ((bareE n l ≠ 0 ∧ e = .returned (.tuple #[.slice none 0 0, .slice none 0 0, .int .i64 (bareE n l)])) ∨
       (bareE n l = 0 ∧ ∃ vx vp, e = .returned (.tuple #[vx, vp, .int .i64 0]) ∧ SlS w' w'.heap.size vx (l.map (bareS n)) ∧ SlP w' w'.heap.size vp (l.map (proofS n)))) := by
  by_cases h : bareE n l = 0
  · have hs : secB n = true := by
      cases hs : secB n with
      | true => rfl
      | false => unfold bareE at h; rw [hs] at h; cases h
    have h3 : letE l = 0 := by unfold bareE at h; rwa [hs, if_pos rfl] at h
    refine (bare_main n l A1 c1 w hT hl hs h3).mono ?_
    rintro e w' ⟨vx, vp, rfl, h1, h2, hb⟩
    exact ⟨hb, .inr ⟨h, vx, vp, rfl, h1, h2⟩⟩
  · refine (bare_head n l A1 c1 w hl h).mono ?_
    rintro e w' ⟨rfl, hb⟩
    exact ⟨hb, .inl ⟨h, rfl⟩⟩
/-! ### the examples -/
def ltr0 : Se := ⟨⟨1, 4⟩, ⟨4, 16⟩, ⟨16, 1⟩⟩
theorem vld16 : vld 16 = true := by rw [vld_K]; decide +kernel
theorem ok_s0 : letE [ltr0] = 0 := by
  refine letE_0.2 ⟨by decide, ?_⟩
  simp [okS, okC, ltr0, vld_1, vld_4, vld16]
theorem pow43 : powC 4 3 = 64 := by rw [pow_K]; decide +kernel
theorem vld64 : vld 64 = true := by have := vld_powC vld_4 3; rwa [pow43] at this
theorem bare_s0 : (bareS 2 ltr0).x = ⟨1, 4⟩ ∧ (bareS 2 ltr0).y = ⟨4, 1⟩ := by
  have h1 : mulC 4 (powC (powC 1 2) (-1)) = 4 := by
    rw [show powC 1 2 = 1 by rw [pow_K]; decide +kernel, show powC 1 (-1) = 1 by rw [pow_K]; decide +kernel]
    exact mul_one' vld_4
  have h2 : mulC 16 (powC (powC 4 2) (-1)) = 1 := by rw [pow_4_2]; exact mul_inv' vld16
  exact ⟨by show Ci.mk 1 (mulC 4 (powC (powC 1 2) (-1))) = _; rw [h1], by show Ci.mk 4 (mulC 16 (powC (powC 4 2) (-1))) = _; rw [h2]⟩
theorem bad_0 : letE [default] = 100 := by
  unfold letE
  rw [if_neg (by decide)]
  have : ([default] : List Se).all okS = false := by simp [okS, okC, default, vld_0, instInhabitedSe]
  rw [this]; rfl
theorem prov34 : provD 3 4 = 64 ∧ provE 3 4 = 0 ∧ provR 3 4 = provP 3 4 := by
  have h : provOK 3 4 = true := by unfold provOK; rw [vld_4]; rfl
  refine ⟨by unfold provD; rw [if_pos h, pow43], by unfold provE; rw [vld_4]; rfl, by unfold provR; rw [if_pos h]⟩
theorem prov04 : provD 0 4 = 0 ∧ provE 0 4 = 110 ∧ provR 0 4 = default := by
  have h : provOK 0 4 = false := rfl
  refine ⟨by unfold provD; rw [h]; rfl, rfl, by unfold provR; rw [h]; rfl⟩
theorem prov12 : provD 1 2 = 0 ∧ provE 1 2 = 90 ∧ provR 1 2 = default := by
  have h : provOK 1 2 = false := by unfold provOK; rw [vld_2]; rfl
  refine ⟨by unfold provD; rw [h]; rfl, by unfold provE; rw [vld_2]; rfl, by unfold provR; rw [h]; rfl⟩
theorem chk1 : chkB 64 4 64 (provP 3 4) = true := by have := prov_right (n := 3) vld_4; rwa [pow43] at this
theorem chk2 (p : Pf) : chkB 0 1 1 p = false := by unfold chkB frm; rw [vld_0]; rfl
theorem chk3 (p : Pf) : chkB 64 4 2 p = false := by unfold chkB frm; rw [vld64, vld_4, vld_2]; rfl
theorem cb1 : cbB 1 [] [] [] = true := by unfold cbB cbHd; rw [vld_1]; rfl
theorem cb2 : cbB 2 [] [] [] = false := by unfold cbB cbHd; rw [vld_2]; rfl
theorem cb3 : cbB 16 [ltr0] [bareS 2 ltr0] [proofS 2 ltr0] = true := by have := bare_right (n := 2) ok_s0; rwa [pow_4_2] at this
theorem e_main : bareE 2 [ltr0] = 0 := by unfold bareE; rw [ok_s0]; rfl
theorem e_bad : bareE 2 [default] = 100 := by unfold bareE; rw [bad_0]; rfl
theorem e_long : bareE 2 (List.replicate 65 default) = 2 := by unfold bareE letE; rw [List.length_replicate]; rfl
theorem new_s1 (W : World) (s : Se) (a : Array Value) (h : s.cells.toArray = a) : SlS (W.alloc (.cells a 55)) (W.alloc (.cells a 55)).heap.size (.slice (some ⟨W.heap.size, 0, none⟩) 1 1) [s] := by
  subst h
  exact Row.sl (c := 1) (m := 6) (enc := encS) (l := [s]) (by simpa [encS] using Row.new W 55 s.cells) (fun _ => rfl) (by simp) (by simp)
theorem zeroSe : ∀ n : Nat, (List.replicate n (default : Se)).flatMap encS = List.replicate (6 * n) (.int .i64 0)
  | 0 => rfl
  | n + 1 => by
    rw [List.replicate_succ, List.flatMap_cons, zeroSe n, show encS default = List.replicate 6 (.int .i64 0) from rfl, List.replicate_append_replicate]
    congr 1; omega
theorem new_65 (W : World) : SlS (W.alloc (.cells (cel (fun _ => 0) (6 * 65) 0).toArray 55)) (W.alloc (.cells (cel (fun _ => 0) (6 * 65) 0).toArray 55)).heap.size (.slice (some ⟨W.heap.size, 0, none⟩) 65 65) (List.replicate 65 default) := by
  have := Row.sl (c := 65) (m := 6) (enc := encS) (l := List.replicate 65 (default : Se)) (w := W.alloc (.cells (cel (fun _ => 0) (6 * 65) 0).toArray 55)) (g := W.heap.size) (t := 55) (by rw [zeroSe, ← cel_zero (fun _ => 0)]; exact Row.new W _ _) (fun _ => rfl) (by simp) (B0 := W.heap.size + 1) (by omega)
  rw [World.size_alloc]
  simpa using this
theorem runP (d : Nat) (s t : Pf) (w : World) : (Op.equalIn (d + 1 + 1) 34 s.val t.val).run Tryd.prog w = .ok (s.e == t.e && s.s == t.s) w := by
  have u3 := Tryd.underlying3
  have a3 := Tryd.isAgg3
  have z3 := Tryd.sizeOf3
  have hS : Tryd.prog.underlying 34 = some (.struct (Tryd.prog.fieldsOf 34)) := by kernel_rfl
  unfold Pf.val
  rw [run_equalIn_struct w (d + 1) 34 _ _ hS (by kernel_rfl)]
  simp only [Program.fieldsOf, Tryd.underlying34]
  go_simp
  by_cases h1 : s.e = t.e <;> by_cases h2 : s.s = t.s <;> simp [h1, h2]
end Go.Proofs.YtaheibbbdglcmaaDoor
