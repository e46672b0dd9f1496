import Derived.Test.YthckledagggoiaaGreatDoorRg5
set_option linter.unusedSimpArgs false
set_option linter.unusedVariables false
namespace Go.Proofs.YthckledagggoiaaGreatDoor
open Go.RowKit Go.MapKept Fk
/-! The desk of homes: a map of maps of entries. -/
def upd2 (D : Int → Int → Option En) (k a : Int) (x : En) : Int → Int → Option En := fun k' a' => if k' = k ∧ a' = a then some x else D k' a'
def deskL (X : List En) : Int → Int → Option En := X.foldl (fun D y => upd2 D y.kind y.a y) (fun _ _ => none)
theorem deskL_snoc (X : List En) (y : En) : deskL (X ++ [y]) = upd2 (deskL X) y.kind y.a y := by unfold deskL; rw [List.foldl_append]; rfl
def updN (h : Int → Option Nat) (k : Int) (b : Nat) : Int → Option Nat := fun x => if x = k then some b else h x
noncomputable abbrev outM (h : Int → Option Nat) : Int → Option Value := fun k => (h k).map fun b => Value.map (some b)
noncomputable abbrev inM (D : Int → Int → Option En) (k : Int) : Int → Option Value := fun a => (D k a).map En.val
structure DeskH (base : Nat) (w : World) (bd : Nat) (h : Int → Option Nat) (D : Int → Int → Option En) : Prop where
  out : MapK (Value.int .i64) w bd (outM h)
  inn : ∀ k b, h k = some b → MapK (Value.int .i64) w b (inM D k) ∧ b ≠ bd ∧ base ≤ b
  no : ∀ k, h k = none → ∀ a, D k a = none
  one : ∀ k k' b, h k = some b → h k' = some b → k = k'
  low : base ≤ bd
def DeskK (base : Nat) (w : World) (bd : Nat) (D : Int → Int → Option En) : Prop := ∃ h, DeskH base w bd h D
theorem DeskH.below {base : Nat} {w w' : World} {bd : Nat} {h : Int → Option Nat} {D : Int → Int → Option En} (H : DeskH base w bd h D) (hb : Below w.heap.size w w') : DeskH base w' bd h D :=
  ⟨H.out.below hb H.out.lt, fun k b hk => ⟨(H.inn k b hk).1.below hb (H.inn k b hk).1.lt, (H.inn k b hk).2⟩, H.no, H.one, H.low⟩
theorem DeskK.below {base : Nat} {w w' : World} {bd : Nat} {D : Int → Int → Option En} (H : DeskK base w bd D) (hb : Below w.heap.size w w') : DeskK base w' bd D := by
  obtain ⟨h, H⟩ := H; exact ⟨h, H.below hb⟩
theorem DeskK.lt {base : Nat} {w : World} {bd : Nat} {D : Int → Int → Option En} (H : DeskK base w bd D) : bd < w.heap.size := by
  obtain ⟨h, H⟩ := H; exact H.out.lt
theorem DeskK.mono {base base' : Nat} {w : World} {bd : Nat} {D : Int → Int → Option En} (H : DeskK base w bd D) (hb : base' ≤ base) : DeskK base' w bd D := by
  obtain ⟨h, H⟩ := H
  exact ⟨h, H.out, fun k b hk => ⟨(H.inn k b hk).1, (H.inn k b hk).2.1, Nat.le_trans hb (H.inn k b hk).2.2⟩, H.no, H.one, Nat.le_trans hb H.low⟩
theorem DeskK.made (base : Nat) (w : World) (hb : base ≤ w.heap.size) : DeskK base (w.alloc (.map #[] 0)) w.heap.size (fun _ _ => none) :=
  ⟨fun _ => none, MapK.made _ w, fun k b h => (by cases h), fun _ _ _ => rfl, fun _ _ _ h => (by cases h), hb⟩
theorem updF_out (h : Int → Option Nat) (k : Int) (b : Nat) : updF (outM h) k (.map (some b)) = outM (updN h k b) := by
  funext x
  unfold outM updN
  by_cases hx : x = k
  · subst hx; rw [updF_same, if_pos rfl]; rfl
  · rw [updF_ne _ _ hx, if_neg hx]
theorem updF_in (D : Int → Int → Option En) (k a : Int) (x : En) : updF (inM D k) a x.val = inM (upd2 D k a x) k := by
  funext y
  unfold inM upd2
  by_cases hx : y = a
  · subst hx; rw [updF_same, if_pos ⟨rfl, rfl⟩]; rfl
  · rw [updF_ne _ _ hx, if_neg (fun h => hx h.2)]
theorem inM_ne (D : Int → Int → Option En) {k k' a : Int} (x : En) (h : k' ≠ k) : inM (upd2 D k a x) k' = inM D k' := by
  funext y
  unfold inM upd2
  rw [if_neg (fun e => h e.1)]
theorem DeskH.new {base : Nat} {w : World} {bd : Nat} {h : Int → Option Nat} {D : Int → Int → Option En} (H : DeskH base w bd h D) {k : Int} (hn : h k = none) (hbase : base ≤ w.heap.size) :
    ∃ w2, (Instr.mapUpdate 104 (.map (some bd)) (.int .i64 k) (.map (some w.heap.size))).run Tryz.prog (w.alloc (.map #[] 0)) = .ok () w2 ∧ DeskH base w2 bd (updN h k w.heap.size) D ∧ Below base w w2 ∧ ∀ r, r < w.heap.size → r ≠ bd → w2.heap[r]? = w.heap[r]? := by
  obtain ⟨w2, hr, hm, hg⟩ := (H.out.alloc (.map #[] 0)).put law_int Tryz.underlying104 k (.map (some w.heap.size))
  have hlt := H.out.lt
  have hz := hg.size
  rw [World.size_alloc] at hz
  refine ⟨w2, hr, ⟨by rw [← updF_out]; exact hm, ?_, ?_, ?_, H.low⟩, ?_⟩
  · intro k' b hb
    unfold updN at hb
    by_cases hk : k' = k
    · rw [if_pos hk] at hb
      cases hb
      refine ⟨?_, by omega, hbase⟩
      have e : inM D k' = fun _ => none := by funext a; unfold inM; rw [hk, H.no k hn a]; rfl
      rw [e]
      exact (MapK.made _ w).keep (hg.block _ (by simp) (fun e => by have := Option.some.inj e; omega))
    · rw [if_neg hk] at hb
      obtain ⟨i1, i2, i3⟩ := H.inn k' b hb
      exact ⟨(i1.alloc _).keep (hg.block _ (by have := i1.lt; simp; omega) (fun e => i2 (Option.some.inj e))), i2, i3⟩
  · intro k' hk'
    unfold updN at hk'
    by_cases hk : k' = k
    · rw [if_pos hk] at hk'; cases hk'
    · rw [if_neg hk] at hk'; exact H.no k' hk'
  · intro k1 k2 b h1 h2
    unfold updN at h1 h2
    by_cases e1 : k1 = k
    · by_cases e2 : k2 = k
      · rw [e1, e2]
      · rw [if_pos e1] at h1; rw [if_neg e2] at h2
        cases h1
        have := (H.inn k2 _ h2).1.lt
        omega
    · by_cases e2 : k2 = k
      · rw [if_neg e1] at h1; rw [if_pos e2] at h2
        cases h2
        have := (H.inn k1 _ h1).1.lt
        omega
      · rw [if_neg e1] at h1; rw [if_neg e2] at h2
        exact H.one k1 k2 b h1 h2
  · exact ⟨((Below.refl base w).alloc hbase _).grown hg (by simp; omega) (fun r e => by have := Option.some.inj e; have := H.low; omega), fun r h1 h2 => (hg.block r (by simp; omega) (fun e => h2 (Option.some.inj e))).trans (Below.heap_alloc _ _ r h1)⟩
theorem DeskH.put {base : Nat} {w : World} {bd : Nat} {h : Int → Option Nat} {D : Int → Int → Option En} (H : DeskH base w bd h D) {k : Int} {b : Nat} (hs : h k = some b) (hbase : base ≤ w.heap.size) (a : Int) (x : En) :
    ∃ w2, (Instr.mapUpdate 147 (.map (some b)) (.int .i64 a) x.val).run Tryz.prog w = .ok () w2 ∧ DeskH base w2 bd h (upd2 D k a x) ∧ Below base w w2 := by
  obtain ⟨i1, i2, i3⟩ := H.inn k b hs
  obtain ⟨w2, hr, hm, hg⟩ := i1.put law_int Tryz.underlying147 a x.val
  refine ⟨w2, hr, ⟨H.out.keep (hg.block _ H.out.lt (fun e => i2 (Option.some.inj e).symm)), ?_, ?_, H.one, H.low⟩, (Below.refl base w).grown hg hbase (fun r e => by have := Option.some.inj e; omega)⟩
  · intro k' b' hb
    obtain ⟨j1, j2, j3⟩ := H.inn k' b' hb
    by_cases hk : k' = k
    · subst hk
      rw [hs] at hb
      cases hb
      exact ⟨by rw [← updF_in]; exact hm, j2, j3⟩
    · rw [inM_ne D x hk]
      exact ⟨j1.keep (hg.block _ j1.lt (fun e => hk (H.one k' k b' hb (by rw [hs, Option.some.inj e])))), j2, j3⟩
  · intro k' hk' a'
    have hne : k' ≠ k := fun e => by rw [e, hs] at hk'; cases hk'
    unfold upd2
    rw [if_neg (fun e => hne e.1)]
    exact H.no k' hk' a'
theorem eq_mapE (q : Option Nat) (w : World) : (binOp .eql 147 (.map q) (.map none)).run Tryz.prog w = .ok (.bool q.isNone) w := by
  cases q <;> kernel_rfl
theorem zero_mapE (w : World) : (zeroValue 147).run Tryz.prog w = .ok (.map none) w := by kernel_rfl
theorem zero_entry (w : World) : (zeroValue 49).run Tryz.prog w = .ok zeroE.val w := by kernel_rfl
theorem DeskH.see {base : Nat} {w : World} {bd : Nat} {h : Int → Option Nat} {D : Int → Int → Option En} (H : DeskH base w bd h D) (k : Int) :
    (Instr.lookup 104 (.map (some bd)) (.int .i64 k) false).run Tryz.prog w = .ok (.map (h k)) w := by
  have := H.out.look law_int Tryz.underlying104 (zero_mapE w) k false
  rw [if_neg (by decide)] at this
  rw [this]
  unfold outM
  cases h k <;> rfl
theorem look_nil (w : World) (a : Int) (c : Bool) : (Instr.lookup 147 (.map none) (.int .i64 a) c).run Tryz.prog w = .ok (if c then .tuple #[zeroE.val, .bool false] else zeroE.val) w := by
  rcases law_int.find a w [] (by simp) with ⟨_, hf⟩ | ⟨j, e, hj, _⟩
  · simp [Instr.lookup, run_underlying Tryz.underlying147, zero_entry, law_int.check, hf, Result.andThen]
    rfl
  · simp at hj
/-- 'd[k][a]', either way. -/
theorem DeskK.look {base : Nat} {w : World} {bd : Nat} {D : Int → Int → Option En} (H : DeskK base w bd D) (k : Int) :
    ∃ mv, (Instr.lookup 104 (.map (some bd)) (.int .i64 k) false).run Tryz.prog w = .ok (.map mv) w ∧
      ∀ a c, (Instr.lookup 147 (.map mv) (.int .i64 a) c).run Tryz.prog w = .ok (if c then .tuple #[((D k a).getD zeroE).val, .bool (D k a).isSome] else ((D k a).getD zeroE).val) w := by
  obtain ⟨h, H⟩ := H
  refine ⟨h k, H.see k, fun a c => ?_⟩
  cases hk : h k with
  | none => rw [look_nil, H.no k hk a]; rfl
  | some b =>
    rw [(H.inn k b hk).1.look law_int Tryz.underlying147 (zero_entry w) a c]
    unfold inM
    cases D k a <;> rfl
end Go.Proofs.YthckledagggoiaaGreatDoor
