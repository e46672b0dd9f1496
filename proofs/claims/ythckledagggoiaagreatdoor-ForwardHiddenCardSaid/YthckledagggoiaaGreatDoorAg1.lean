import Derived.Test.YthckledagggoiaaGreatDoorMh
import Derived.Test.YthckledagggoiaaGreatDoorFp0
set_option linter.unusedSimpArgs false
set_option linter.unusedVariables false
/-! A range over a function whose body makes memory of its own: all blocks stay but those that are the body's. -/
namespace Fk
open Go Go.RowKit
def SameBut (Z : Nat → Prop) (W W' : World) : Prop := ∀ r, r < W.heap.size → ¬ Z r → W'.heap[r]? = W.heap[r]?
/-- **An iterator's contract**: it yields vals in order, till a round says 'no more'. -/
def SeqM (F : Fence) (n : Nat) (P : Program) (g : Nat) (lb : Array Value) (vals : List (Array Value)) (X : Nat → Prop) (T : World → Prop) (K : Nat) (Zok : Nat → Prop) : Prop :=
  ∀ (l : Nat) (J Jx : Nat → World → Prop) (Z : World → Nat → Prop) (W : World), T W → W.heap.size = K → Ab X J → Ab X Jx → (∀ k W o r, J k W → Z (W.alloc o) r → Z W r) → (∀ k W r, J k W → Z W r → Zok r ∧ r < W.heap.size) →
    (∀ k v W1, J k W1 → K < W1.heap.size → vals[k]? = some v → YieldAt F (n - 1) P l v W1 fun e W' =>
      (e = .returned (.bool true) ∧ J (k + 1) W' ∧ SameBut (Z W1) W1 W' ∧ W1.heap.size ≤ W'.heap.size) ∨ (e = .returned (.bool false) ∧ Jx (k + 1) W')) →
    J 0 W →
    CallsIn F n P g (#[.func (.yield l) #[] #[]] ++ lb) W fun e W' => (∃ v, e = .returned v) ∧ (J vals.length W' ∨ ∃ k, k < vals.length ∧ Jx (k + 1) W')

/-- How the body of a round may be left. -/
def postM (B : Nat) (Z : World → Nat → Prop) (I : Nat → World → Prop) (Ix : Code → Nat → World → Prop) (k : Nat) (W : World) : Exit → Act → World → Prop
  | .normal, _, W' => Kept B W W' ∧ SameBut (Z W) W W' ∧ I k W'
  | .ret, _, W' => Kept B W W' ∧ Ix .ret k W'
  | .exit id, _, W' => Kept B W W' ∧ Ix (.exit id) k W'
  | .goto t, _, W' => Kept B W W' ∧ Ix (.goto t) k W'
  | .panic _, _, _ => False
  | .outgrown, _, _ => False
variable {F : Fence} {n : Nat} {P : Program}
set_option maxHeartbeats 1000000 in
/-- **The law of the statement**, outside every round. The loop's own two blocks are number w.heap.size (deferred calls) and w.heap.size + 1 (its record). -/
theorem wpIn_rangeM {g : Operand} {ps : Array Tmp} {assign body : Code} {Q : Exit → Act → World → Prop} {a : Act} {w : World}
    (hro : F.round = none) (h1 : 1 ≤ n) {gf : Nat} {lb : Array Value} (hg : a.eval g = .func (.func gf) #[] lb) (hFg : F.fn gf) (eg : ∀ args w, (callFunc gf args).run P w = .ok (.enter gf args) w)
    {vals : List (Array Value)} {X Zok : Nat → Prop} {T : World → Prop} (hseq : SeqM F (n - 1) P gf lb vals X T (w.heap.size + 2) Zok)
    (hT : ∀ W, Below w.heap.size w W → T W) (hZB : Zok (w.heap.size + 1)) (hX0 : ¬ X w.heap.size) (hX1 : ¬ X (w.heap.size + 1)) (hps : ∀ v, v ∈ vals → v.size = ps.size)
    (Z : World → Nat → Prop) (hZp : ∀ W o r, Z (W.putObj (w.heap.size + 1) o) r → Z W r)
    (I : Nat → World → Prop) (Ix : Code → Nat → World → Prop) (hI : Ab (fun r => X r ∨ r = w.heap.size + 1) I) (hIx : ∀ c, Ab (fun r => X r ∨ r = w.heap.size + 1) (Ix c)) (h0 : I 0 w) (hZa : ∀ k W o r, I k W → Z (W.alloc o) r → Z W r) (hZok : ∀ k W r, I k W → Z W r → Zok r ∧ r < W.heap.size)
    (Ax : Nat → Act → Prop)
    (hassign : ∀ (l k : Nat) (v : Array Value) (W : World) (K : Act → World → Prop), I k W → vals[k]? = some v → w.heap.size + 2 ≤ W.heap.size →
      (∀ a', Ax k a' → K a' W) →
      assign.wpIn (F.inRound l) (n - 1 - 1) P (Exit.then K (fun _ _ _ => False)) { tmps := (ps.zip v).foldl (fun t (p, v) => t.setIfInBounds p v) a.tmps, defers := [] } W)
    (hbody : ∀ (l k : Nat) (v : Array Value) (a' : Act) (W : World), I k W → Ax k a' → vals[k]? = some v → w.heap.size + 2 < W.heap.size →
      body.wpIn (F.inRound l) (n - 1 - 1) P (postM w.heap.size Z I Ix (k + 1) W) a' W)
    (hdone : ∀ (W : World), I vals.length W → w.heap.size + 2 ≤ W.heap.size → W.heap[w.heap.size]? = some (.deferred (some [])) →
      Q .normal { a with defers := { target := .collected w.heap.size, args := #[] } :: a.defers } W)
    (hstop : ∀ (c : Code) (k : Nat) (W : World), k < vals.length → Ix c (k + 1) W → w.heap.size + 2 ≤ W.heap.size → W.heap[w.heap.size]? = some (.deferred (some [])) →
      c.wpIn F n P Q { a with defers := { target := .collected w.heap.size, args := #[] } :: a.defers } W) :
    (Code.rangeFunc g ps assign body).wpIn F n P Q a w := by
  refine wpIn_rangeFunc fun fn hfn => ?_
  rw [hro]
  generalize hB : w.heap.size = B at *
  let rec' : LoopState → Option Code → Loop := fun st pe => { state := st, pending := pe, fn, tmps := a.tmps, params := ps, assign, body, defers := B }
  let Good : World → LoopState → Option Code → Prop := fun W st pe => W.heap[B + 1]? = some (.loop (rec' st pe)) ∧ W.heap[B]? = some (.deferred (some []))
  have good_lt : ∀ {W st pe}, Good W st pe → B + 2 ≤ W.heap.size := fun h => (Array.getElem?_eq_some_iff.1 h.1).1
  have good_put : ∀ {W st pe} st' pe', Good W st pe → Good (W.putObj (B + 1) (.loop (rec' st' pe'))) st' pe' := fun st' pe' h =>
    ⟨World.putObj_heap_same (Array.getElem?_eq_some_iff.1 h.1).1, (World.putObj_heap_other (by omega)).trans h.2⟩
  have good_kept : ∀ {W W' st pe}, Good W st pe → Kept B W W' → Good W' st pe := fun h k => ⟨k.two.trans h.1, k.one.trans h.2⟩
  have good_ab : ∀ {W W' row st pe}, Good W st pe → W.grownBy W' row → (∀ r, row = some r → X r) → Good W' st pe := fun h k hr =>
    ⟨(k.block (B + 1) (Array.getElem?_eq_some_iff.1 h.1).1 (fun e => hX1 (hr _ e.symm))).trans h.1,
      (k.block B (Array.getElem?_eq_some_iff.1 h.2).1 (fun e => hX0 (hr _ e.symm))).trans h.2⟩
  obtain ⟨W1, hW1⟩ : ∃ W1, (w.alloc (.deferred (some []))).alloc (.loop (rec' .ready none)) = W1 := ⟨_, rfl⟩
  have hG1 : Good W1 .ready none := by
    rw [← hW1]
    constructor
    · have := World.alloc_heap_new (w.alloc (.deferred (some []))) (.loop (rec' .ready none))
      rwa [World.size_alloc, hB] at this
    · have := (Below.heap_alloc (w.alloc (.deferred (some []))) (.loop (rec' .ready none)) w.heap.size (by simp)).trans (World.alloc_heap_new w _)
      rwa [hB] at this
  have hI1 : I 0 W1 := by rw [← hW1]; exact hI.new _ (hI.new _ h0)
  have hT1 : T W1 := hT W1 (by
    rw [← hW1, ← hB]
    exact ((Below.refl _ w).alloc (Nat.le_refl _) _).alloc (by simp) _)
  have hsz1 : W1.heap.size = B + 2 := by rw [← hW1, ← hB]; simp
  refine ⟨B + 1, [{ target := .collected B, args := #[] }], W1, { target := .fn (.func gf) lb, args := #[.func (.yield (B + 1)) #[] #[]] }, W1, gf, #[.func (.yield (B + 1)) #[] #[]] ++ lb, W1, ?_, ?_, ?_, ?_, fun _ => h1, ?_⟩
  · rw [← hW1]; subst hB; exact run_enterLoop_outer _ _ _ _ _
  · simp only [resolve, hg]; simp [go_sem]
  · intro f' hf'
    simp [Target.leads] at hf'; subst hf'; exact hFg
  · simp [invoke, go_sem, eg]
  refine (hseq (B + 1) (fun k W => I k W ∧ Good W .ready none) (fun k W => ∃ c, Ix c k W ∧ Good W .done (some c)) (fun W r => Z W r ∨ r = B + 1) W1 hT1 hsz1
    (fun s A C row hs hg' hr => ⟨hI s A C row hs.1 hg' (fun r e => .inl (hr r e)), good_ab hs.2 hg' hr⟩)
    (fun s A C row ⟨c, hs, hG⟩ hg' hr => ⟨c, hIx c s A C row hs hg' (fun r e => .inl (hr r e)), good_ab hG hg' hr⟩)
    (fun k W o r hJ h => h.imp (hZa k W o r hJ.1) id) (fun k W r hJ h => h.elim (fun h => hZok k W r hJ.1 h) (fun e => by rw [e]; exact ⟨hZB, good_lt hJ.2⟩)) ?_ ⟨hI1, hG1⟩).mono ?_
  · -- one round
    rintro k v W ⟨hi, hG⟩ hK1 hv
    have hy := run_yield (P := P) (args := v) hG.1 (hps v (List.mem_of_getElem? hv))
    refine ⟨fn, _, assign, body, hy, roundIn_of_wpIn hfn (hassign _ k v W _ hi hv (good_lt hG) ?_)⟩
    intro a' hax
    refine ⟨_, run_beginRound hG.1 rfl, ?_⟩
    have hGb := good_put .busy none hG
    refine wpIn_mono (hbody _ k v a' _ (hI.put _ hi (.inr rfl)) hax hv (by simp; exact hK1)) ?_
    have fin : ∀ (jump : Option Code) (W3 : World), Kept B (W.putObj (B + 1) (.loop (rec' .busy none))) W3 →
        (Instr.endRound (B + 1) jump).run P W3 = .ok (.bool jump.isNone) (W3.putObj (B + 1) (.loop (rec' (if jump.isNone then .ready else .done) jump))) ∧
        Good (W3.putObj (B + 1) (.loop (rec' (if jump.isNone then .ready else .done) jump))) (if jump.isNone then .ready else .done) jump ∧ W3.heap.size = (W3.putObj (B + 1) (.loop (rec' (if jump.isNone then .ready else .done) jump))).heap.size := fun jump W3 hk3 => by
      have hG3 := good_kept hGb hk3
      exact ⟨run_endRound (P := P) jump hG3.1, good_put _ _ hG3, by simp⟩
    rintro e a3 W3 hp
    cases e with
    | normal =>
      obtain ⟨hk3, hs3, hi3⟩ := hp
      obtain ⟨hr, hG3, hz⟩ := fin none W3 hk3
      refine ⟨_, _, hr, .inl ⟨rfl, ⟨hI.put _ hi3 (.inr rfl), hG3⟩, fun r h1 h2 => ?_, ?_⟩⟩
      · rw [World.putObj_heap_other (fun e => h2 (.inr e)), hs3 r (by simp; exact h1) (fun h => h2 (.inl (hZp _ _ _ h))), World.putObj_heap_other (fun e => h2 (.inr e))]
      · rw [← hz]; have := hk3.size; simp at this; omega
    | ret =>
      obtain ⟨hk3, hi3⟩ := hp
      obtain ⟨hr, hG3, _⟩ := fin (some .ret) W3 hk3
      exact ⟨_, _, hr, .inr ⟨rfl, .ret, (hIx _).put _ hi3 (.inr rfl), hG3⟩⟩
    | exit id =>
      obtain ⟨hk3, hi3⟩ := hp
      obtain ⟨hr, hG3, _⟩ := fin (some (.exit id)) W3 hk3
      exact ⟨_, _, hr, .inr ⟨rfl, .exit id, (hIx _).put _ hi3 (.inr rfl), hG3⟩⟩
    | goto t =>
      obtain ⟨hk3, hi3⟩ := hp
      obtain ⟨hr, hG3, _⟩ := fin (some (.goto t)) W3 hk3
      exact ⟨_, _, hr, .inr ⟨rfl, .goto t, (hIx _).put _ hi3 (.inr rfl), hG3⟩⟩
    | panic ch => exact hp.elim
    | outgrown => exact hp.elim
  · -- behind the iterator
    rintro e W2 ⟨⟨v, rfl⟩, (⟨hi, hG⟩ | ⟨k, hk, c, hi, hG⟩)⟩
    · have hlt := good_lt hG
      exact ⟨none, _, run_endLoop (P := P) hG.1 (by simp [rec']), hdone _ (hI.put _ hi (.inr rfl)) (by simp; exact hlt) ((World.putObj_heap_other (by omega)).trans hG.2)⟩
    · have hlt := good_lt hG
      exact ⟨some c, _, run_endLoop (P := P) hG.1 (by simp [rec']), hstop c k _ hk ((hIx c).put _ hi (.inr rfl)) (by simp; exact hlt) ((World.putObj_heap_other (by omega)).trans hG.2)⟩
end Fk
