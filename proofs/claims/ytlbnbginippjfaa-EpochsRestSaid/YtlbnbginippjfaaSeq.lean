import Derived.RangeFuncNested
import Derived.RangeFuncLeaves
import Derived.Deep.Draws
/-! A range over a function whose iterator may keep state of its own in memory: the iterator's contract lists what it yields, names the blocks that it writes (X) and those on which it leans (Y). -/
namespace Fk
open Go Go.RowKit

/-- J stands whatever becomes of the blocks of X, and of what is new. -/
def Ab {β : Type} (X : Nat → Prop) (J : β → World → Prop) : Prop :=
  ∀ s W W' row, J s W → W.grownBy W' row → (∀ r, row = some r → X r) → J s W'
def SameOn (Y : Nat → Prop) (W W' : World) : Prop := ∀ r, Y r → W'.heap[r]? = W.heap[r]?
theorem SameOn.refl (Y : Nat → Prop) (W : World) : SameOn Y W W := fun _ _ => rfl
theorem SameOn.trans {Y : Nat → Prop} {A B C : World} (h : SameOn Y A B) (k : SameOn Y B C) : SameOn Y A C := fun r hr => (k r hr).trans (h r hr)
theorem SameOn.putObj {Y : Nat → Prop} {W : World} {l : Nat} (o : Obj) (h : ¬ Y l) : SameOn Y W (W.putObj l o) :=
  fun _ hr => World.putObj_heap_other (fun e => h (e ▸ hr))
theorem SameOn.below {Y : Nat → Prop} {n : Nat} {W W' : World} (h : Below n W W') (hY : ∀ r, Y r → r < n) : SameOn Y W W' := fun r hr => h.block r (hY r hr)
/-- the two blocks of the loop's own book-keeping lie as they lay -/
structure Kept (B : Nat) (W W' : World) : Prop where
  size : W.heap.size ≤ W'.heap.size
  one : W'.heap[B]? = W.heap[B]?
  two : W'.heap[B + 1]? = W.heap[B + 1]?
theorem Kept.refl (B : Nat) (W : World) : Kept B W W := ⟨Nat.le_refl _, rfl, rfl⟩
theorem Kept.trans {B : Nat} {X Y Z : World} (h : Kept B X Y) (k : Kept B Y Z) : Kept B X Z := ⟨Nat.le_trans h.size k.size, k.one.trans h.one, k.two.trans h.two⟩
theorem Kept.below {B n : Nat} {W W' : World} (h : Below n W W') (hn : B + 2 ≤ n) (hs : W.heap.size ≤ W'.heap.size) : Kept B W W' := ⟨hs, h.block B (by omega), h.block (B + 1) (by omega)⟩
theorem Kept.grown {B : Nat} {W W' : World} {row : Option Nat} (h : W.grownBy W' row) (hs : B + 2 ≤ W.heap.size) (h1 : row ≠ some B) (h2 : row ≠ some (B + 1)) : Kept B W W' :=
  ⟨h.size, h.block B (by omega) (fun e => h1 e.symm), h.block (B + 1) (by omega) (fun e => h2 e.symm)⟩
theorem Kept.setCell {B : Nat} (W : World) {p : Addr} (u : Value) (h1 : p.block ≠ B) (h2 : p.block ≠ B + 1) : Kept B W (W.setCell p u) :=
  ⟨by simp [World.setCell], Below.heap_setCell W p u B (fun e => h1 e.symm), Below.heap_setCell W p u (B + 1) (fun e => h2 e.symm)⟩
theorem Kept.alloc {B : Nat} (W : World) (o : Obj) (hs : B + 2 ≤ W.heap.size) : Kept B W (W.alloc o) :=
  ⟨by simp, Below.heap_alloc W o B (by omega), Below.heap_alloc W o (B + 1) (by omega)⟩
theorem Kept.drew (B : Nat) (W : World) : Kept B W W.drew := ⟨Nat.le_refl _, rfl, rfl⟩
theorem Kept.drewN (B : Nat) (W : World) (n : Nat) : Kept B W (W.drewN n) := ⟨Nat.le_refl _, rfl, rfl⟩

/-- **An iterator's contract**: it yields vals in order, till a round says 'no more'. -/
def SeqL (F : Fence) (n : Nat) (P : Program) (g : Nat) (lb : Array Value) (vals : List (Array Value)) (X Y : Nat → Prop) (T : World → Prop) (K : Nat) : Prop :=
  ∀ (l : Nat) (J Jx : Nat → World → Prop) (W : World), T W → W.heap.size = K → Ab X J → Ab X Jx →
    (∀ k v W1, J k W1 → K ≤ W1.heap.size → vals[k]? = some v → YieldAt F (n - 1) P l v W1 fun e W' =>
      (e = .returned (.bool true) ∧ J (k + 1) W' ∧ SameOn Y W1 W' ∧ W1.heap.size ≤ W'.heap.size) ∨ (e = .returned (.bool false) ∧ Jx (k + 1) W')) →
    J 0 W →
    CallsIn F n P g (#[.func (.yield l) #[] #[]] ++ lb) W fun e W' => (∃ v, e = .returned v) ∧ (J vals.length W' ∨ ∃ k, k < vals.length ∧ Jx (k + 1) W')

/-- How the body of a round may be left. -/
def postL (B : Nat) (Y : Nat → Prop) (I : Nat → World → Prop) (Ix : Code → Nat → World → Prop) (k : Nat) (W : World) : Exit → Act → World → Prop
  | .normal, _, W' => Kept B W W' ∧ SameOn Y W W' ∧ I k W'
  | .ret, _, W' => Kept B W W' ∧ Ix .ret k W'
  | .exit id, _, W' => Kept B W W' ∧ Ix (.exit id) k W'
  | .goto t, _, W' => Kept B W W' ∧ Ix (.goto t) k W'
  | .panic _, _, _ => False
  | .outgrown, _, _ => False

variable {F : Fence} {n : Nat} {P : Program}
theorem Ab.put {β : Type} {X : Nat → Prop} {J : β → World → Prop} (h : Ab X J) {s : β} {W : World} {l : Nat} (o : Obj) (hs : J s W) (hl : X l) : J s (W.putObj l o) :=
  h s W _ (some l) hs (grownBy_putObj' W l o) (fun r e => by cases e; exact hl)
theorem Ab.new {β : Type} {X : Nat → Prop} {J : β → World → Prop} (h : Ab X J) {s : β} {W : World} (o : Obj) (hs : J s W) : J s (W.alloc o) :=
  h s W _ none hs (World.grownBy_alloc W o none) (fun r e => by cases e)

set_option maxHeartbeats 1000000 in
/-- **The law of the statement**, outside every round. The loop's own two blocks are number w.heap.size (deferred calls) and w.heap.size + 1 (its record). -/
theorem wpIn_rangeL {g : Operand} {ps : Array Tmp} {assign body : Code} {Q : Exit → Act → World → Prop} {a : Act} {w : World}
    (hro : F.round = none) (h1 : 1 ≤ n) {gf : Nat} {lb : Array Value} (hg : a.eval g = .func (.func gf) #[] lb) (hFg : F.fn gf) (eg : ∀ args w, (callFunc gf args).run P w = .ok (.enter gf args) w)
    {vals : List (Array Value)} {X Y : Nat → Prop} {T : World → Prop} (hseq : SeqL F (n - 1) P gf lb vals X Y T (w.heap.size + 2))
    (hT : ∀ W, Below w.heap.size w W → T W) (hY : ¬ Y (w.heap.size + 1)) (hX0 : ¬ X w.heap.size) (hX1 : ¬ X (w.heap.size + 1)) (hps : ∀ v, v ∈ vals → v.size = ps.size)
    (I : Nat → World → Prop) (Ix : Code → Nat → World → Prop) (hI : Ab (fun r => X r ∨ r = w.heap.size + 1) I) (hIx : ∀ c, Ab (fun r => X r ∨ r = w.heap.size + 1) (Ix c)) (h0 : I 0 w)
    (Ax : Nat → Act → World → Prop) (hAx : ∀ k a', Ab (fun r => r = w.heap.size + 1) (fun (_ : Unit) W => Ax k a' W))
    (hassign : ∀ (l k : Nat) (v : Array Value) (W : World) (K : Act → World → Prop), I k W → vals[k]? = some v → w.heap.size + 2 ≤ W.heap.size →
      (∀ a' W', Kept w.heap.size W W' → SameOn Y W W' → I k W' → Ax k a' W' → K a' W') →
      assign.wpIn (F.inRound l) (n - 1 - 1) P (Exit.then K (fun _ _ _ => False)) { tmps := (ps.zip v).foldl (fun t (p, v) => t.setIfInBounds p v) a.tmps, defers := [] } W)
    (hbody : ∀ (l k : Nat) (v : Array Value) (a' : Act) (W : World), I k W → Ax k a' W → vals[k]? = some v → w.heap.size + 2 ≤ W.heap.size →
      body.wpIn (F.inRound l) (n - 1 - 1) P (postL w.heap.size Y I Ix (k + 1) W) a' W)
    (hdone : ∀ (W : World), I vals.length W → w.heap.size + 2 ≤ W.heap.size → W.heap[w.heap.size]? = some (.deferred (some [])) →
      Q .normal { a with defers := { target := .collected w.heap.size, args := #[] } :: a.defers } W)
    (hstop : ∀ (c : Code) (k : Nat) (W : World), k < vals.length → Ix c (k + 1) W → w.heap.size + 2 ≤ W.heap.size → W.heap[w.heap.size]? = some (.deferred (some [])) →
      c.wpIn F n P Q { a with defers := { target := .collected w.heap.size, args := #[] } :: a.defers } W) :
    (Code.rangeFunc g ps assign body).wpIn F n P Q a w := by
  refine wpIn_rangeFunc fun fn hfn => ?_
  rw [hro]
  generalize hB : w.heap.size = B at *
  let rec' : LoopState → Option Code → Loop := fun st pe => { state := st, pending := pe, fn, tmps := a.tmps, params := ps, assign, body, defers := B }
  let Good : World → LoopState → Option Code → Prop := fun W st pe => W.heap[B + 1]? = some (.loop (rec' st pe)) ∧ W.heap[B]? = some (.deferred (some []))
  have good_lt : ∀ {W st pe}, Good W st pe → B + 2 ≤ W.heap.size := fun h => (Array.getElem?_eq_some_iff.1 h.1).1
  have good_put : ∀ {W st pe} st' pe', Good W st pe → Good (W.putObj (B + 1) (.loop (rec' st' pe'))) st' pe' := fun st' pe' h =>
    ⟨World.putObj_heap_same (Array.getElem?_eq_some_iff.1 h.1).1, (World.putObj_heap_other (by omega)).trans h.2⟩
  have good_kept : ∀ {W W' st pe}, Good W st pe → Kept B W W' → Good W' st pe := fun h k => ⟨k.two.trans h.1, k.one.trans h.2⟩
  have good_ab : ∀ {W W' row st pe}, Good W st pe → W.grownBy W' row → (∀ r, row = some r → X r) → Good W' st pe := fun h k hr =>
    ⟨(k.block (B + 1) (Array.getElem?_eq_some_iff.1 h.1).1 (fun e => hX1 (hr _ e.symm))).trans h.1,
      (k.block B (Array.getElem?_eq_some_iff.1 h.2).1 (fun e => hX0 (hr _ e.symm))).trans h.2⟩
  obtain ⟨W1, hW1⟩ : ∃ W1, (w.alloc (.deferred (some []))).alloc (.loop (rec' .ready none)) = W1 := ⟨_, rfl⟩
  have hG1 : Good W1 .ready none := by
    rw [← hW1]
    constructor
    · have := World.alloc_heap_new (w.alloc (.deferred (some []))) (.loop (rec' .ready none))
      rwa [World.size_alloc, hB] at this
    · have := (Below.heap_alloc (w.alloc (.deferred (some []))) (.loop (rec' .ready none)) w.heap.size (by simp)).trans (World.alloc_heap_new w _)
      rwa [hB] at this
  have hI1 : I 0 W1 := by rw [← hW1]; exact hI.new _ (hI.new _ h0)
  have hT1 : T W1 := hT W1 (by
    rw [← hW1, ← hB]
    exact ((Below.refl _ w).alloc (Nat.le_refl _) _).alloc (by simp) _)
  have hsz1 : W1.heap.size = B + 2 := by rw [← hW1, ← hB]; simp
  refine ⟨B + 1, [{ target := .collected B, args := #[] }], W1, { target := .fn (.func gf) lb, args := #[.func (.yield (B + 1)) #[] #[]] }, W1, gf, #[.func (.yield (B + 1)) #[] #[]] ++ lb, W1, ?_, ?_, ?_, ?_, fun _ => h1, ?_⟩
  · rw [← hW1]; subst hB; exact run_enterLoop_outer _ _ _ _ _
  · simp only [resolve, hg]; simp [go_sem]
  · intro f' hf'
    simp [Target.leads] at hf'; subst hf'; exact hFg
  · simp [invoke, go_sem, eg]
  refine (hseq (B + 1) (fun k W => I k W ∧ Good W .ready none) (fun k W => ∃ c, Ix c k W ∧ Good W .done (some c)) W1 hT1 hsz1
    (fun s A C row hs hg' hr => ⟨hI s A C row hs.1 hg' (fun r e => .inl (hr r e)), good_ab hs.2 hg' hr⟩)
    (fun s A C row ⟨c, hs, hG⟩ hg' hr => ⟨c, hIx c s A C row hs hg' (fun r e => .inl (hr r e)), good_ab hG hg' hr⟩) ?_ ⟨hI1, hG1⟩).mono ?_
  · -- one round
    rintro k v W ⟨hi, hG⟩ _ hv
    have hy := run_yield (P := P) (args := v) hG.1 (hps v (List.mem_of_getElem? hv))
    refine ⟨fn, _, assign, body, hy, roundIn_of_wpIn hfn (hassign _ k v W _ hi hv (good_lt hG) ?_)⟩
    intro a' Wa hka hsa hia hax
    have hGa := good_kept hG hka
    refine ⟨_, run_beginRound hGa.1 rfl, ?_⟩
    have hGb := good_put .busy none hGa
    refine wpIn_mono (hbody _ k v a' _ (hI.put _ hia (.inr rfl)) ((hAx k a').put (s := ()) _ hax rfl) hv (good_lt hGb)) ?_
    have fin : ∀ (jump : Option Code) (W3 : World), Kept B (Wa.putObj (B + 1) (.loop (rec' .busy none))) W3 →
        (Instr.endRound (B + 1) jump).run P W3 = .ok (.bool jump.isNone) (W3.putObj (B + 1) (.loop (rec' (if jump.isNone then .ready else .done) jump))) ∧
        Good (W3.putObj (B + 1) (.loop (rec' (if jump.isNone then .ready else .done) jump))) (if jump.isNone then .ready else .done) jump ∧ W3.heap.size = (W3.putObj (B + 1) (.loop (rec' (if jump.isNone then .ready else .done) jump))).heap.size := fun jump W3 hk3 => by
      have hG3 := good_kept hGb hk3
      exact ⟨run_endRound (P := P) jump hG3.1, good_put _ _ hG3, by simp⟩
    rintro e a3 W3 hp
    cases e with
    | normal =>
      obtain ⟨hk3, hs3, hi3⟩ := hp
      obtain ⟨hr, hG3, hz⟩ := fin none W3 hk3
      refine ⟨_, _, hr, .inl ⟨rfl, ⟨hI.put _ hi3 (.inr rfl), hG3⟩, ((hsa.trans (SameOn.putObj _ hY)).trans hs3).trans (SameOn.putObj _ hY), ?_⟩⟩
      rw [← hz]; have := hka.size; have := hk3.size; simp at this; omega
    | ret =>
      obtain ⟨hk3, hi3⟩ := hp
      obtain ⟨hr, hG3, _⟩ := fin (some .ret) W3 hk3
      exact ⟨_, _, hr, .inr ⟨rfl, .ret, (hIx _).put _ hi3 (.inr rfl), hG3⟩⟩
    | exit id =>
      obtain ⟨hk3, hi3⟩ := hp
      obtain ⟨hr, hG3, _⟩ := fin (some (.exit id)) W3 hk3
      exact ⟨_, _, hr, .inr ⟨rfl, .exit id, (hIx _).put _ hi3 (.inr rfl), hG3⟩⟩
    | goto t =>
      obtain ⟨hk3, hi3⟩ := hp
      obtain ⟨hr, hG3, _⟩ := fin (some (.goto t)) W3 hk3
      exact ⟨_, _, hr, .inr ⟨rfl, .goto t, (hIx _).put _ hi3 (.inr rfl), hG3⟩⟩
    | panic ch => exact hp.elim
    | outgrown => exact hp.elim
  · -- behind the iterator
    rintro e W2 ⟨⟨v, rfl⟩, (⟨hi, hG⟩ | ⟨k, hk, c, hi, hG⟩)⟩
    · have hlt := good_lt hG
      exact ⟨none, _, run_endLoop (P := P) hG.1 (by simp [rec']), hdone _ (hI.put _ hi (.inr rfl)) (by simp; exact hlt) ((World.putObj_heap_other (by omega)).trans hG.2)⟩
    · have hlt := good_lt hG
      exact ⟨some c, _, run_endLoop (P := P) hG.1 (by simp [rec']), hstop c k _ hk ((hIx c).put _ hi (.inr rfl)) (by simp; exact hlt) ((World.putObj_heap_other (by omega)).trans hG.2)⟩
end Fk
