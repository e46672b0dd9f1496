import Derived.Test.YthboebhghaabnaaGreatDoorPzm
set_option linter.unusedSimpArgs false
set_option linter.unusedVariables false
namespace Go.Proofs.YthboebhghaabnaaGreatDoor
open Go.RowKit Fk Sha
/-! The reference of law 14: Make. -/
abbrev ownS (base : Nat) (w : World) (v : Value) (l : List Se) : Prop := w.ownsRow base 45 6 v l.length (l.flatMap encS)
def Apart (v u : Value) : Prop := ∀ k, v.ownBlock = some k → u.ownBlock ≠ some k
theorem Apart.symm {v u : Value} (h : Apart v u) : Apart u v := fun k hk e => h k e hk
theorem Apart.kept {v u : Value} (h : Apart v u) : u.ownBlock = none ∨ u.ownBlock ≠ v.ownBlock := by
  cases hv : u.ownBlock with
  | none => exact .inl rfl
  | some k => exact .inr (fun e => h k e.symm hv)
theorem Apart.grown {v u : Value} {W : World} {base g n c : Nat} {e : TypeId} {m n' : Nat} {xs : List Value} (h : Apart v u) (hu : W.ownsRow base e m u n' xs) (hat : v.ownBlock = some g ∨ W.heap.size ≤ g) : Apart (.slice (some ⟨g, 0, none⟩) n c) u := fun q hq e2 => by
  have hq' : g = q := by injection hq
  subst hq'
  rcases hat with h5 | h5
  · exact h _ h5 e2
  · have := (hu.lt _ e2).2; omega
/-- what the reference makes -/
structure Rm (w : World) (t : Tn) (x : TnA) (A : Option Addr) (n c base gX gO : Nat) (M O : List Se) (L R : List (List B)) (W : World) : Prop where
  b : Below w.heap.size w W
  z : base ≤ W.heap.size
  tn : Row W w.heap.size 27 (x.cells t)
  rs : Row W (w.heap.size + 1) 32 [.slice none 0 0, .slice none 0 0, .slice none 0 0, .slice none 0 0, .slice none 0 0]
  mx : ∃ vm vl vr, Row W gX 32 [.slice A n c, vm, .slice (some ⟨gO, 0, none⟩) n n, vl, vr] ∧ ownS base W vm M ∧ ownD base W vl L ∧ ownD base W vr R ∧ Apart vm vl ∧ Apart vm vr ∧ Apart vl vr
  ro : Row W gO 45 (O.flatMap encS)
  hx : w.heap.size + 2 ≤ gX ∧ gX < base
  ho : w.heap.size + 2 ≤ gO ∧ gO < base
  ne : gX ≠ gO
section
variable {w W W' : World} {t : Tn} {x : TnA} {A : Option Addr} {n c base gX gO : Nat} {M O : List Se} {L R : List (List B)}
theorem Rm.below (h : Rm w t x A n c base gX gO M O L R W) (hb : Below W.heap.size W W') : Rm w t x A n c base gX gO M O L R W' := by
  obtain ⟨vm, vl, vr, h1, h2, h3, h4, h5⟩ := h.mx
  have hg := grown_below' hb none
  exact ⟨h.b.trans (hb.mono h.b.size), Nat.le_trans h.z hb.size, h.tn.below hb h.tn.lt, h.rs.below hb h.rs.lt, ⟨vm, vl, vr, h1.below hb h1.lt, h2.kept hg (own_free fun _ _ e => by cases e), h3.kept hg (own_free fun _ _ e => by cases e), h4.kept hg (own_free fun _ _ e => by cases e), h5⟩, h.ro.below hb h.ro.lt, h.hx, h.ho, h.ne⟩
theorem Rm.setO (h : Rm w t x A n c base gX gO M O L R W) {k : Nat} (hk : k < O.length) (s : Se) : Rm w t x A n c base gX gO M (O.set k s) L R (put6 W gO (k * 6) s) := by
  obtain ⟨vm, vl, vr, h1, h2, h3, h4, h5⟩ := h.mx
  have hg := put6_grown W gO (k * 6) s
  have g1 := h.hx
  have g2 := h.ho
  have g3 := h.ne
  have fr : ∀ v : Value, (∀ k, v.ownBlock = some k → base ≤ k) → v.ownBlock = none ∨ v.ownBlock ≠ some gO := fun v hv => own_free fun q hq e => by injection e with e; have := hv q hq; omega
  exact ⟨put6_below h.b (by omega), by rw [put6_size]; exact h.z, h.tn.keep (put6_heap (by omega)), h.rs.keep (put6_heap (by omega)), ⟨vm, vl, vr, h1.keep (put6_heap (by omega)), h2.kept hg (fr _ fun q hq => (h2.lt q hq).1), h3.kept hg (fr _ fun q hq => (h3.lt q hq).1), h4.kept hg (fr _ fun q hq => (h4.lt q hq).1), h5⟩, put6_at h.ro hk s, h.hx, h.ho, h.ne⟩
theorem Rm.growM {vm vl vr : Value} (h : Rm w t x A n c base gX gO M O L R W) (h1 : Row W gX 32 [.slice A n c, vm, .slice (some ⟨gO, 0, none⟩) n n, vl, vr]) (h2 : ownS base W vm M) (h3 : ownD base W vl L) (h4 : ownD base W vr R) (a1 : Apart vm vl) (a2 : Apart vm vr) (a3 : Apart vl vr)
    {g cap : Nat} (s : Se) (hown : W'.ownsRow base 45 6 (.slice (some ⟨g, 0, none⟩) (M.length + 1) cap) (M.length + 1) (M.flatMap encS ++ encS s)) (hgr : W.grownBy W' vm.ownBlock) (hat : vm.ownBlock = some g ∨ W.heap.size ≤ g) :
    Rm w t x A n c base gX gO (M ++ [s]) O L R (W'.setCell ⟨gX, 1, none⟩ (.slice (some ⟨g, 0, none⟩) (M.length + 1) cap)) := by
  have g1 := h.hx
  have g2 := h.ho
  have g3 := h.ne
  have hz := h.z
  have k : ∀ b, b < base → W'.heap[b]? = W.heap[b]? := fun b hb => hgr.block b (by omega) (fun e => by have := (h2.lt b e.symm).1; omega)
  have e : ∀ b, b ≠ gX → (W'.setCell ⟨gX, 1, none⟩ (.slice (some ⟨g, 0, none⟩) (M.length + 1) cap)).heap[b]? = W'.heap[b]? := fun b hb => Below.heap_setCell _ _ _ b hb
  refine ⟨(h.b.grown hgr h.b.size (fun r er => by have := (h2.lt r er).1; omega)).setCell (p := ⟨gX, 1, none⟩) (by show _ ≤ gX; omega) _, ?_, h.tn.keep ((e _ (by omega)).trans (k _ (by omega))), h.rs.keep ((e _ (by omega)).trans (k _ (by omega))),
    ⟨(.slice (some ⟨g, 0, none⟩) (M.length + 1) cap), vl, vr, (Row.keep h1 (k _ (by omega))).store 1 _, ?_, ?_, ?_, ?_, ?_, ?_⟩, h.ro.keep ((e _ (by omega)).trans (k _ (by omega))), h.hx, h.ho, h.ne⟩
  · have := hgr.size; simp [World.setCell]; omega
  · unfold ownS
    rw [List.length_append, List.flatMap_append]
    simpa using own_cell hown (by omega) _ _
  · exact own_cell (h3.kept hgr a1.kept) (by omega) _ _
  · exact own_cell (h4.kept hgr a2.kept) (by omega) _ _
  · exact a1.grown h3 hat
  · exact a2.grown h4 hat
  · exact a3
theorem Rm.growL {vm vl vr : Value} (h : Rm w t x A n c base gX gO M O L R W) (h1 : Row W gX 32 [.slice A n c, vm, .slice (some ⟨gO, 0, none⟩) n n, vl, vr]) (h2 : ownS base W vm M) (h3 : ownD base W vl L) (h4 : ownD base W vr R) (a1 : Apart vm vl) (a2 : Apart vm vr) (a3 : Apart vl vr)
    {g cap : Nat} (s : List B) (hown : W'.ownsRow base 58 32 (.slice (some ⟨g, 0, none⟩) (L.length + 1) cap) (L.length + 1) (L.flatMap encD ++ encD s)) (hgr : W.grownBy W' vl.ownBlock) (hat : vl.ownBlock = some g ∨ W.heap.size ≤ g) :
    Rm w t x A n c base gX gO M O (L ++ [s]) R (W'.setCell ⟨gX, 3, none⟩ (.slice (some ⟨g, 0, none⟩) (L.length + 1) cap)) := by
  have g1 := h.hx
  have g2 := h.ho
  have g3 := h.ne
  have hz := h.z
  have k : ∀ b, b < base → W'.heap[b]? = W.heap[b]? := fun b hb => hgr.block b (by omega) (fun e => by have := (h3.lt b e.symm).1; omega)
  have e : ∀ b, b ≠ gX → (W'.setCell ⟨gX, 3, none⟩ (.slice (some ⟨g, 0, none⟩) (L.length + 1) cap)).heap[b]? = W'.heap[b]? := fun b hb => Below.heap_setCell _ _ _ b hb
  refine ⟨(h.b.grown hgr h.b.size (fun r er => by have := (h3.lt r er).1; omega)).setCell (p := ⟨gX, 3, none⟩) (by show _ ≤ gX; omega) _, ?_, h.tn.keep ((e _ (by omega)).trans (k _ (by omega))), h.rs.keep ((e _ (by omega)).trans (k _ (by omega))),
    ⟨vm, (.slice (some ⟨g, 0, none⟩) (L.length + 1) cap), vr, (Row.keep h1 (k _ (by omega))).store 3 _, ?_, ?_, ?_, ?_, ?_, ?_⟩, h.ro.keep ((e _ (by omega)).trans (k _ (by omega))), h.hx, h.ho, h.ne⟩
  · have := hgr.size; simp [World.setCell]; omega
  · exact own_cell (h2.kept hgr a1.symm.kept) (by omega) _ _
  · unfold ownD
    rw [List.length_append, List.flatMap_append]
    simpa using own_cell hown (by omega) _ _
  · exact own_cell (h4.kept hgr a3.kept) (by omega) _ _
  · exact (a1.symm.grown h2 hat).symm
  · exact a2
  · exact a3.grown h4 hat
theorem Rm.growR {vm vl vr : Value} (h : Rm w t x A n c base gX gO M O L R W) (h1 : Row W gX 32 [.slice A n c, vm, .slice (some ⟨gO, 0, none⟩) n n, vl, vr]) (h2 : ownS base W vm M) (h3 : ownD base W vl L) (h4 : ownD base W vr R) (a1 : Apart vm vl) (a2 : Apart vm vr) (a3 : Apart vl vr)
    {g cap : Nat} (s : List B) (hown : W'.ownsRow base 58 32 (.slice (some ⟨g, 0, none⟩) (R.length + 1) cap) (R.length + 1) (R.flatMap encD ++ encD s)) (hgr : W.grownBy W' vr.ownBlock) (hat : vr.ownBlock = some g ∨ W.heap.size ≤ g) :
    Rm w t x A n c base gX gO M O L (R ++ [s]) (W'.setCell ⟨gX, 4, none⟩ (.slice (some ⟨g, 0, none⟩) (R.length + 1) cap)) := by
  have g1 := h.hx
  have g2 := h.ho
  have g3 := h.ne
  have hz := h.z
  have k : ∀ b, b < base → W'.heap[b]? = W.heap[b]? := fun b hb => hgr.block b (by omega) (fun e => by have := (h4.lt b e.symm).1; omega)
  have e : ∀ b, b ≠ gX → (W'.setCell ⟨gX, 4, none⟩ (.slice (some ⟨g, 0, none⟩) (R.length + 1) cap)).heap[b]? = W'.heap[b]? := fun b hb => Below.heap_setCell _ _ _ b hb
  refine ⟨(h.b.grown hgr h.b.size (fun r er => by have := (h4.lt r er).1; omega)).setCell (p := ⟨gX, 4, none⟩) (by show _ ≤ gX; omega) _, ?_, h.tn.keep ((e _ (by omega)).trans (k _ (by omega))), h.rs.keep ((e _ (by omega)).trans (k _ (by omega))),
    ⟨vm, vl, (.slice (some ⟨g, 0, none⟩) (R.length + 1) cap), (Row.keep h1 (k _ (by omega))).store 4 _, ?_, ?_, ?_, ?_, ?_, ?_⟩, h.ro.keep ((e _ (by omega)).trans (k _ (by omega))), h.hx, h.ho, h.ne⟩
  · have := hgr.size; simp [World.setCell]; omega
  · exact own_cell (h2.kept hgr a2.symm.kept) (by omega) _ _
  · exact own_cell (h3.kept hgr a3.symm.kept) (by omega) _ _
  · unfold ownD
    rw [List.length_append, List.flatMap_append]
    simpa using own_cell hown (by omega) _ _
  · exact a1
  · exact (a2.symm.grown h2 hat).symm
  · exact (a3.symm.grown h3 hat).symm
end
end Go.Proofs.YthboebhghaabnaaGreatDoor

set_option linter.unusedSimpArgs false
set_option linter.unusedVariables false
namespace Go.Proofs.YthboebhghaabnaaGreatDoor
open Go.RowKit Fk Sha
/-! The reference of law 14: Make, the walk. -/
def put5 (W : World) (g : Nat) (a b c d e : Value) : World := ((((W.setCell ⟨g, 0, none⟩ a).setCell ⟨g, 1, none⟩ b).setCell ⟨g, 2, none⟩ c).setCell ⟨g, 3, none⟩ d).setCell ⟨g, 4, none⟩ e
theorem own_put5 {W : World} {base n m g : Nat} {t : TypeId} {v a b c d e : Value} {vs : List Value} (h : W.ownsRow base t m v n vs) (hg : g < base) : (put5 W g a b c d e).ownsRow base t m v n vs :=
  own_cell (own_cell (own_cell (own_cell (own_cell h hg _ _) hg _ _) hg _ _) hg _ _) hg _ _
theorem row_put5 {W : World} {g k : Nat} {t : TypeId} {a b c d e : Value} {vs : List Value} (h : Row W k t vs) (hg : k ≠ g) : Row (put5 W g a b c d e) k t vs :=
  Row.other (Row.other (Row.other (Row.other (Row.other h hg _) hg _) hg _) hg _) hg _
theorem below_put5 {w W : World} {B g : Nat} {a b c d e : Value} (h : Below B w W) (hg : B ≤ g) : Below B w (put5 W g a b c d e) :=
  ((((h.setCell (p := ⟨g, 0, none⟩) hg a).setCell (p := ⟨g, 1, none⟩) hg b).setCell (p := ⟨g, 2, none⟩) hg c).setCell (p := ⟨g, 3, none⟩) hg d).setCell (p := ⟨g, 4, none⟩) hg e
theorem size_put5 (W : World) (g : Nat) (a b c d e : Value) : (put5 W g a b c d e).heap.size = W.heap.size := by simp [put5, World.setCell]
def midsR (key : Int) (s : List Se) (t : Tn) (k : Nat) : List Se := (List.range k).map (midAt key s t)
set_option maxRecDepth 100000 in
set_option maxHeartbeats 20000000 in
theorem rmake_main (key : Int) (s : List Se) (t : Tn) (x : TnA) (A : Option Addr) (c : Nat) (w : World) (h : TnS w w.heap.size x t) (hs : SlS w w.heap.size (.slice A s.length c) s) (hok : OkTn t) (hE : mixE key s t = 0) :
    Calls Tryz.prog 8 #[.int .i64 key, .slice A s.length c, .agg (x.cells t).toArray] w fun e w' => ∃ y : MxA, e = .returned (.tuple #[.agg (y.cells (mixTo key s t s.length)).toArray, .int .i64 0]) ∧ Below w.heap.size w w' ∧ MxS w' w'.heap.size y (mixTo key s t s.length) := by
  have hE2 : vld key = true ∧ s.length ≤ 64 ∧ s.all okS = true ∧ rightB t s.length = true := by
    unfold mixE at hE
    by_cases h1 : vld key = true
    · rw [if_pos h1] at hE
      by_cases h2 : s.length ≤ 64
      · rw [if_pos h2] at hE
        by_cases h3 : s.all okS = true
        · rw [if_pos h3] at hE
          by_cases h4 : rightB t s.length = true
          · exact ⟨h1, h2, h3, h4⟩
          · rw [if_neg h4] at hE; cases hE
        · rw [if_neg h3] at hE; cases hE
      · rw [if_neg h2] at hE; cases hE
    · rw [if_neg h1] at hE; cases hE
  obtain ⟨f1, f2, f3, f4⟩ := hE2
  obtain ⟨e1, e2, e3, e4, e5, _, e7, e8⟩ := rightB_facts f4
  have hB := (below_alloc' w (.cells (x.cells t).toArray 27)).alloc (by simp) (.cells #[.slice none 0 0, .slice none 0 0, .slice none 0 0, .slice none 0 0, .slice none 0 0] 32)
  have r0 := (Row.new w 27 (x.cells t)).alloc (.cells #[.slice none 0 0, .slice none 0 0, .slice none 0 0, .slice none 0 0, .slice none 0 0] 32)
  have r1 : Row ((w.alloc (.cells (x.cells t).toArray 27)).alloc (.cells #[.slice none 0 0, .slice none 0 0, .slice none 0 0, .slice none 0 0, .slice none 0 0] 32)) (w.heap.size + 1) 32 [.slice none 0 0, .slice none 0 0, .slice none 0 0, .slice none 0 0, .slice none 0 0] := rowZ (by simp) _ [.slice none 0 0, .slice none 0 0, .slice none 0 0, .slice none 0 0, .slice none 0 0]
  obtain ⟨W, hW⟩ : ∃ W, (w.alloc (.cells (x.cells t).toArray 27)).alloc (.cells #[.slice none 0 0, .slice none 0 0, .slice none 0 0, .slice none 0 0, .slice none 0 0] 32) = W := ⟨_, rfl⟩
  rw [hW] at hB r0 r1
  have q1 := fun w => refvalid_any key w
  rw [f1] at q1
  have q2 := fun (w' : World) (hb' : Below w.heap.size w w') => rformed10_any s _ w' ((hs.below hb').mono hb'.size)
  rw [f3] at q2
  have q3 := fun (w' : World) (hb' : Below w.heap.size w w') => rright_any t x s.length w' ((h.below hb').mono hb'.size)
  rw [f4] at q3
  have hLL : ∀ k, k < s.length → (ogL t k).ok := fun k hk => hok.l k (by omega) (by omega) (by omega)
  have hRR : ∀ k, k < s.length → (ogR t k).ok := fun k hk => hok.r k (by omega) (by omega) (by omega)
  have q4 := fun (k : Nat) (hk : k < s.length) (w' : World) (hb' : Below w.heap.size w w') => rhalf_any t x k 0 w' ((h.below hb').mono hb'.size) (.inl rfl) (by omega) (by omega) (by omega) (by omega) (by omega) (hok.s k (by omega))
  have q5 := fun (k : Nat) (hk : k < s.length) (w' : World) (hb' : Below w.heap.size w w') => rhalf_any t x k 1 w' ((h.below hb').mono hb'.size) (.inr rfl) (by omega) (by omega) (by omega) (by omega) (by omega) (hok.s k (by omega))
  have hL0 : ∀ k, ogAt t k 0 = ogL t k := fun k => rfl
  have hL1 : ∀ k, ogAt t k 1 = ogR t k := fun k => by unfold ogAt; rw [if_neg (by decide)]
  simp only [hL0, hL1] at q4 q5
  have ht0 : tagOf 0 = tagL := rfl
  have ht1 : tagOf 1 = tagR := by unfold tagOf; rw [if_neg (by decide)]
  have q6 := fun (k : Nat) (hk : k < s.length) (w' : World) => rcommit14_any 0 (ogL t k) (hLL k hk) w'
  have q7 := fun (k : Nat) (hk : k < s.length) (w' : World) => rcommit14_any 1 (ogR t k) (hRR k hk) w'
  rw [ht0] at q6
  rw [ht1] at q7
  have hcomL : ∀ k, (comN tagL (ogL t k)).length = 32 := fun k => tagged_length _ _
  have hcomR : ∀ k, (comN tagR (ogR t k)).length = 32 := fun k => tagged_length _ _
  obtain ⟨al, cl, ar, cr, arl, crl, arr, crr, at_, ct⟩ := x
  have HX : (TnA.cells ⟨al, cl, ar, cr, arl, crl, arr, crr, at_, ct⟩ t) = [.slice al s.length cl, .slice ar s.length cr, .slice arl s.length crl, .slice arr s.length crr, .slice at_ s.length ct] := by
    unfold TnA.cells
    simp only [e1, e2, e3, e4, e5]
  obtain ⟨hh1, hh2, hh3, hh4, hh5⟩ := h
  simp only at hh1 hh2 hh3 hh4 hh5
  rw [e1] at hh1
  rw [e2] at hh2
  rw [e3] at hh3
  rw [e4] at hh4
  rw [HX] at r0 q3 q4 q5 hW ⊢
  replace hW : (w.alloc (.cells #[.slice al s.length cl, .slice ar s.length cr, .slice arl s.length crl, .slice arr s.length crr, .slice at_ s.length ct] 27)).alloc (.cells #[.slice none 0 0, .slice none 0 0, .slice none 0 0, .slice none 0 0, .slice none 0 0] 32) = W := hW
  obtain ⟨u0, u1, u2, u3, u4⟩ := st5c r0
  have hlt := r0.lt
  have s1 : ¬ ((64 : Int) < s.length) := by omega
  have Q1 := Lib.hid q1
  have Q2 := Lib.hid q2
  have Q3 := Lib.hid q3
  have Q4 := Lib.hid q4
  have Q5 := Lib.hid q5
  have Q6 := Lib.hid q6
  have Q7 := Lib.hid q7
  have H1 := Lib.hid hh1
  have H2 := Lib.hid hh2
  have H3 := Lib.hid hh3
  have H4 := Lib.hid hh4
  have HSS := Lib.hid hs
  have E1 := Lib.hid e1
  have E2 := Lib.hid e2
  have E3 := Lib.hid e3
  have E4 := Lib.hid e4
  have E7 := Lib.hid e7
  have E8 := Lib.hid e8
  have HXX := Lib.hid HX
  have HCL := Lib.hid hcomL
  have HCR := Lib.hid hcomR
  clear q1 q2 q3 q4 q5 q6 q7 hh1 hh2 hh3 hh4 hh5 hs e1 e2 e3 e4 e5 e7 e8 hLL hRR hok hE f1 f3 f4 HX hL0 hL1 ht0 ht1 hcomL hcomR
  obtain ⟨id0, hid, hidz0, hidz1, hidz2⟩ := info_parts infoD32
  obtain ⟨ZZ, hZZ⟩ : ∃ ZZ, (List.replicate s.length (default : Se)).flatMap encS = ZZ := ⟨_, rfl⟩
  have hmk : ∀ w : World, (Instr.makeSlice 22 (.int .i64 (s.length : Int)) (.int .i64 (s.length : Int))).run Tryz.prog w = .ok (.slice (some ⟨w.heap.size, 0, none⟩) s.length s.length) (w.alloc (.cells ZZ.toArray 45)) := fun w => by rw [← hZZ]; exact make_se _ (by omega) w
  have HZZ := Lib.hid hZZ
  have HMK := Lib.hid hmk
  clear hZZ hmk
  go_enter Tryz.func8, Tryz.ntmps8
  go_upto_region 1 with fail
  try rw [hW]
  clear hW
  go_upto_region 9 with (first
    | (go_at_call 28; (with_reducible refine (Q1.out _).mono ?_); rintro e w1 ⟨rfl, rfl⟩)
    | (go_at_call 29; (with_reducible refine (Q2.out _ hB).mono ?_); rintro e w2 ⟨rfl, hb⟩; replace r0 := r0.below hb r0.lt; replace r1 := r1.below hb r1.lt; replace hB := hB.trans (hb.mono hB.size); clear hb u0 u1 u2 u3 u4 hlt; obtain ⟨u0, u1, u2, u3, u4⟩ := st5c r0; have hlt := r0.lt)
    | (go_at_call 30; (with_reducible refine (Q3.out _ hB).mono ?_); rintro e w3 ⟨rfl, hb⟩; replace r0 := r0.below hb r0.lt; replace r1 := r1.below hb r1.lt; replace hB := hB.trans (hb.mono hB.size); clear hb u0 u1 u2 u3 u4 hlt; obtain ⟨u0, u1, u2, u3, u4⟩ := st5c r0; have hlt := r0.lt))
  have hz3 : w.heap.size + 2 ≤ w3.heap.size := by have := r1.lt; omega
  have hmk := HMK.out w3
  have r0' := (r0.alloc (.cells ZZ.toArray 45)).alloc (.cells #[.slice A s.length c, .slice none 0 0, .slice (some ⟨w3.heap.size, 0, none⟩) s.length s.length, .slice none 0 0, .slice none 0 0] 32)
  have r1' := (r1.alloc (.cells ZZ.toArray 45)).alloc (.cells #[.slice A s.length c, .slice none 0 0, .slice (some ⟨w3.heap.size, 0, none⟩) s.length s.length, .slice none 0 0, .slice none 0 0] 32)
  have rO := (Row.new w3 45 ZZ).alloc (.cells #[.slice A s.length c, .slice none 0 0, .slice (some ⟨w3.heap.size, 0, none⟩) s.length s.length, .slice none 0 0, .slice none 0 0] 32)
  have rX : Row ((w3.alloc (.cells ZZ.toArray 45)).alloc (.cells #[.slice A s.length c, .slice none 0 0, .slice (some ⟨w3.heap.size, 0, none⟩) s.length s.length, .slice none 0 0, .slice none 0 0] 32)) (w3.heap.size + 1) 32 [.slice A s.length c, .slice none 0 0, .slice (some ⟨w3.heap.size, 0, none⟩) s.length s.length, .slice none 0 0, .slice none 0 0] := rowZ (by simp) _ _
  have hB' := (hB.alloc hB.size (.cells ZZ.toArray 45)).alloc (by simp; omega) (.cells #[.slice A s.length c, .slice none 0 0, .slice (some ⟨w3.heap.size, 0, none⟩) s.length s.length, .slice none 0 0, .slice none 0 0] 32)
  have hz5 : ((w3.alloc (.cells ZZ.toArray 45)).alloc (.cells #[.slice A s.length c, .slice none 0 0, .slice (some ⟨w3.heap.size, 0, none⟩) s.length s.length, .slice none 0 0, .slice none 0 0] 32)).heap.size = w3.heap.size + 2 := by simp
  have hmk0 : Rm w t ⟨al, cl, ar, cr, arl, crl, arr, crr, at_, ct⟩ A s.length c (w3.heap.size + 2) (w3.heap.size + 1) w3.heap.size (midsR key s t 0) (layTo s.length default t.r (outAt key s t) 0) (leftsTo t 0) (rightsTo t 0) ((w3.alloc (.cells ZZ.toArray 45)).alloc (.cells #[.slice A s.length c, .slice none 0 0, .slice (some ⟨w3.heap.size, 0, none⟩) s.length s.length, .slice none 0 0, .slice none 0 0] 32)) := by
    refine ⟨hB', by rw [hz5]; omega, by rw [HXX.out]; exact r0', r1', ⟨.slice none 0 0, .slice none 0 0, .slice none 0 0, rX, World.ownsRow_nil _ _ _ _, World.ownsRow_nil _ _ _ _, World.ownsRow_nil _ _ _ _, ?_, ?_, ?_⟩, ?_, ⟨by omega, by omega⟩, ⟨by omega, by omega⟩, by omega⟩
    · intro k e; cases e
    · intro k e; cases e
    · intro k e; cases e
    · rw [layTo_zero, HZZ.out]; exact rO
  have HM0 := Lib.hid hmk0
  clear hmk0 r0' r1' rO rX hB' hz5
  go_upto_region 10 with fail
  have hMk := HM0.out
  have hgx := hMk.hx
  clear HM0 r0 r1 hB hmk u0 u1 u2 u3 u4 hlt HZZ HMK
  generalize (w3.alloc (.cells ZZ.toArray 45)).alloc (.cells #[.slice A s.length c, .slice none 0 0, .slice (some ⟨w3.heap.size, 0, none⟩) s.length s.length, .slice none 0 0, .slice none 0 0] 32) = W5 at *
  clear hz3
  generalize w3.heap.size = gO at *

  go_wp2_with fail
  go_loopg [9] s.length (fun gg iv wr => ∃ k : Nat, iv = .int .i64 k ∧ k + gg = s.length ∧ Rm w t ⟨al, cl, ar, cr, arl, crl, arr, crr, at_, ct⟩ A s.length c (gO + 2) (gO + 1) gO (midsR key s t k) (layTo s.length default t.r (outAt key s t) k) (leftsTo t k) (rightsTo t k) wr)
  case atStart => exact ⟨0, rfl, by omega, hMk⟩
  case round =>
    clear hMk
    obtain ⟨k, rfl, hkg, hMk⟩ := hrel
    by_cases hk : k < s.length
    · obtain ⟨b0, o0, ha0, hb0, e0⟩ := sl_at H1.out (j := k) (by rw [E1.out]; exact hk)
      obtain ⟨b1, o1, ha1, hb1, e1⟩ := sl_at H2.out (j := k) (by rw [E2.out]; exact hk)
      obtain ⟨b2, o2, ha2, hb2, e2⟩ := sl_range H3.out (j := k) (by rw [E3.out]; exact hk) rfl
      obtain ⟨b3, o3, ha3, hb3, e3⟩ := sl_range H4.out (j := k) (by rw [E4.out]; exact hk) rfl
      subst ha0 ha1 ha2 ha3
      have hp1 := permB_at E7.out (k := k) (by rw [E1.out]; exact hk)
      have hp2 := permB_at E8.out (k := k) (by rw [E2.out]; exact hk)
      rw [E1.out] at hp1
      rw [E2.out] at hp2
      have hmid : midAt key s t k = againC key (s.getD (t.l.getD k default).toNat default) (t.rl.getD k default) := rfl
      have hout : outAt key s t k = againC key (midAt key s t k) (t.rr.getD k default) := rfl
      have hlay := layTo_succ s.length default t.r (outAt key s t) k
      obtain ⟨p, hp⟩ : ∃ p : Nat, t.l.getD k default = p := ⟨(t.l.getD k default).toNat, by omega⟩
      obtain ⟨p2, hp2'⟩ : ∃ p : Nat, t.r.getD k default = p := ⟨(t.r.getD k default).toNat, by omega⟩
      rw [hp] at hp1
      rw [hp2'] at hp2
      rw [hp, Int.toNat_natCast] at hmid
      rw [hp2', Int.toNat_natCast] at hlay
      obtain ⟨bi, oi, hai, hbi, ei⟩ := sl_range HSS.out (j := p) (by omega) rfl
      subst hai
      obtain ⟨X, hX⟩ : ∃ X, s.getD p default = X := ⟨_, rfl⟩
      obtain ⟨r, hr⟩ : ∃ r, t.rl.getD k default = r := ⟨_, rfl⟩
      obtain ⟨rr, hrr⟩ : ∃ r, t.rr.getD k default = r := ⟨_, rfl⟩
      rw [hX] at ei hmid
      rw [hr] at e2 hmid
      rw [hrr] at e3 hout
      obtain ⟨Y, hY⟩ : ∃ Y, midAt key s t k = Y := ⟨_, rfl⟩
      obtain ⟨V, hV⟩ : ∃ V, outAt key s t k = V := ⟨_, rfl⟩
      have hmsu : midsR key s t k ++ [Y] = midsR key s t (k + 1) := by rw [← hY]; exact (map_range_snoc _ _).symm
      have hlsu : leftsTo t k ++ [comN tagL (ogL t k)] = leftsTo t (k + 1) := (map_range_snoc _ _).symm
      have hrsu : rightsTo t k ++ [comN tagR (ogR t k)] = rightsTo t (k + 1) := (map_range_snoc _ _).symm
      have hml : (midsR key s t k).length = k := by simp [midsR]
      have hll : (leftsTo t k).length = k := by simp [leftsTo]
      have hrl : (rightsTo t k).length = k := by simp [rightsTo]
      rw [hY] at hmid hout
      rw [hV] at hout hlay
      have q1 := fun w => ragain_any key X r w
      have q2 := fun w => ragain_any key Y rr w
      rw [← hmid] at q1
      rw [← hout] at q2
      obtain ⟨z1, hz1⟩ : ∃ z, againE key X = z := ⟨_, rfl⟩
      obtain ⟨z2, hz2⟩ : ∃ z, againE key Y = z := ⟨_, rfl⟩
      rw [hz1] at q1
      rw [hz2] at q2
      unfold Se.val Tr.val at q1 q2
      have A1 := Lib.hid q1
      have A2 := Lib.hid q2
      have q4 := Q4.out k hk
      have q5 := Q5.out k hk
      have q6 := Q6.out k hk
      have q7 := Q7.out k hk
      have B4 := Lib.hid q4
      have B5 := Lib.hid q5
      have B6 := Lib.hid q6
      have B7 := Lib.hid q7
      have d0 := e0 0 (by omega)
      have d1 := e1 0 (by omega)
      simp only [encI, hp, List.getD_cons_zero, Nat.add_zero, Nat.mul_one] at d0
      simp only [encI, hp2', List.getD_cons_zero, Nat.add_zero, Nat.mul_one] at d1
      have s2 : (0 : Int) ≤ k := by omega
      have s3 : (k : Int) < s.length := by omega
      obtain ⟨s4, s5⟩ := hp1
      obtain ⟨s6, s7⟩ := hp2
      have hol := layTo_length s.length (default : Se) t.r (outAt key s t) k
      obtain ⟨M, hMM⟩ : ∃ M, midsR key s t k = M := ⟨_, rfl⟩
      obtain ⟨L, hLL⟩ : ∃ L, leftsTo t k = L := ⟨_, rfl⟩
      obtain ⟨R, hRR⟩ : ∃ R, rightsTo t k = R := ⟨_, rfl⟩
      obtain ⟨O, hOO⟩ : ∃ O, layTo s.length default t.r (outAt key s t) k = O := ⟨_, rfl⟩
      rw [hMM] at hmsu hml
      rw [hLL] at hlsu hll
      rw [hRR] at hrsu hrl
      rw [hOO] at hlay hol
      rw [hMM, hLL, hRR, hOO] at hMk
      have HLAY := Lib.hid hlay
      have HOL := Lib.hid hol
      have HMSU := Lib.hid hmsu
      have HLSU := Lib.hid hlsu
      have HRSU := Lib.hid hrsu
      have HML := Lib.hid hml
      have HLL := Lib.hid hll
      have HRL := Lib.hid hrl
      have HP := Lib.hid hp
      clear hMM hLL hRR hOO q1 q2 q4 q5 q6 q7 e0 e1 hmid hout hlay hp hp2' hX hr hrr hY hV hz1 hz2 hol hmsu hlsu hrsu hml hll hrl
      -- the turn's own cells
      have tn := hMk.tn
      rw [HXX.out] at tn
      obtain ⟨u0, u1, u2, u3, u4⟩ := st5c tn
      have hBr := hMk.b
      have hz0 := hMk.z
      have hw0 : w.heap.size < wr.heap.size := by omega
      have d0' := (hBr.cell (p := ⟨b0, o0 + k, none⟩) hb0).trans d0
      have d1' := (hBr.cell (p := ⟨b1, o1 + k, none⟩) hb1).trans d1
      have e2' := range_below e2 hBr hb2
      have e3' := range_below e3 hBr hb3
      have ei' := range_below ei hBr hbi
      have hb0' : b0 < wr.heap.size := by omega
      have hb1' : b1 < wr.heap.size := by omega
      have hb2' : b2 < wr.heap.size := by omega
      have hb3' : b3 < wr.heap.size := by omega
      have hbi' : bi < wr.heap.size := by omega
      have hi6 : (Tryz.prog.info? 45).map (·.size) = some 6 := by kernel_rfl
      have hi3 : (Tryz.prog.info? 56).map (·.size) = some 3 := by kernel_rfl
      have hi5 : (Tryz.prog.info? 27).map (·.size) = some 5 := by kernel_rfl
      have D1 := Lib.hid d1
      clear d0 d1 e2 e3 ei
      go_upto_region 13 with fail
      refine wp_region_detA 19 18 10 [17] (fun w' => Below wr.heap.size wr w') (.cells #[.int .i64 0, .int .i64 0, .int .i64 0, .int .i64 0, .int .i64 0, .int .i64 0] 45) (fun b => .pointer (some ⟨b, 0, none⟩)) (by kernel_rfl) (by kernel_rfl) (fun _ _ d _ _ h => by cases d <;> exact h) (Below.refl _ _).drew (fun w o h => h.alloc h.size o) ?_
      iterate 8
        refine wpDetA_take (v := ?_) (by decide) rfl (by kernel_rfl) (fun w' hSw => ?_) ?_
        rotate_left 1
        · have c0 := (hSw.cell (p := ⟨w.heap.size, 0, none⟩) hw0).trans u0
          have c1 := (hSw.cell (p := ⟨b0, o0 + k, none⟩) hb0').trans d0'
          go_simp
          with_reducible rfl
        simp only [Act.put, List.getElem_toArray, List.getElem_cons_succ, List.getElem_cons_zero, List.setIfInBounds_toArray, List.set_cons_zero, List.set_cons_succ]
      refine wpDetA_take (v := .agg #[.int .i64 X.x.a, .int .i64 X.x.b, .int .i64 X.y.a, .int .i64 X.y.b, .int .i64 X.z.a, .int .i64 X.z.b]) (by decide) rfl (by kernel_rfl) (fun w' hSw => exec_load (ty := 45) (x := .tmp 51) (p := .pointer (some ⟨bi, oi + p * 6, none⟩)) (by kernel_rfl) (by kernel_rfl) (run_loadAt_mid w' (bi) (oi + p * 6) 45 _ _ (range_below ei' hSw hbi') Tryz.underlying45 rfl hi6)) ?_
      simp only [Act.put, List.getElem_toArray, List.getElem_cons_succ, List.getElem_cons_zero, List.setIfInBounds_toArray, List.set_cons_zero, List.set_cons_succ]
      iterate 4
        refine wpDetA_take (v := ?_) (by decide) rfl (by kernel_rfl) (fun w' hSw => ?_) ?_
        rotate_left 1
        · have c0 := (hSw.cell (p := ⟨w.heap.size, 2, none⟩) hw0).trans u2
          go_simp
          with_reducible rfl
        simp only [Act.put, List.getElem_toArray, List.getElem_cons_succ, List.getElem_cons_zero, List.setIfInBounds_toArray, List.set_cons_zero, List.set_cons_succ]
      refine wpDetA_take (v := .agg #[.int .i64 r.p, .int .i64 r.q, .int .i64 r.r]) (by decide) rfl (by kernel_rfl) (fun w' hSw => exec_load (ty := 56) (x := .tmp 56) (p := .pointer (some ⟨b2, o2 + k * 3, none⟩)) (by kernel_rfl) (by kernel_rfl) (run_loadAt_mid w' (b2) (o2 + k * 3) 56 _ _ (range_below e2' hSw hb2') Tryz.underlying56 rfl hi3)) ?_
      simp only [Act.put, List.getElem_toArray, List.getElem_cons_succ, List.getElem_cons_zero, List.setIfInBounds_toArray, List.set_cons_zero, List.set_cons_succ]
      refine wpDetA_call (v := .tuple #[.agg #[.int .i64 Y.x.a, .int .i64 Y.x.b, .int .i64 Y.y.a, .int .i64 Y.y.b, .int .i64 Y.z.a, .int .i64 Y.z.b], .int .i64 z1]) (by decide) rfl (by kernel_rfl) (fun w' hSw K hK => ?_) ?_
      · go_simp
        go_at_call 31
        refine (A1.out _).mono ?_
        rintro e w1 ⟨rfl, hb⟩
        exact hK _ (hSw.trans (hb.mono hSw.size)) hb
      simp only [Act.put, List.getElem_toArray, List.getElem_cons_succ, List.getElem_cons_zero, List.setIfInBounds_toArray, List.set_cons_zero, List.set_cons_succ]
      iterate 2
        refine wpDetA_take (v := ?_) (by decide) rfl (by kernel_rfl) (fun w' hSw => ?_) ?_
        rotate_left 1
        · skip
          go_simp
          with_reducible rfl
        simp only [Act.put, List.getElem_toArray, List.getElem_cons_succ, List.getElem_cons_zero, List.setIfInBounds_toArray, List.set_cons_zero, List.set_cons_succ]
      refine wpDetA_free (v := ?_) (by decide) rfl (by kernel_rfl) (fun w' => ?_) ?_
      rotate_left 1
      · go_simp
        with_reducible rfl
      simp only [Act.put, List.getElem_toArray, List.getElem_cons_succ, List.getElem_cons_zero, List.setIfInBounds_toArray, List.set_cons_zero, List.set_cons_succ]
      refine wpDetA_lay rfl rfl (fun a w => by go_simp) ?_
      simp only [Act.put, List.getElem_toArray, List.getElem_cons_succ, List.getElem_cons_zero, List.setIfInBounds_toArray, List.set_cons_zero, List.set_cons_succ]
      refine wpDetA_done ?_
      intro g6 w6' hS2 hg2 hgz hb2
      simp only [List.drop_succ_cons, List.drop_zero, Act.put, List.getElem_toArray, List.getElem_cons_succ, List.getElem_cons_zero, List.setIfInBounds_toArray, List.set_cons_zero, List.set_cons_succ]
      have rz := row_heap hg2
      obtain ⟨z0, z1, z2, z3, z4, z5⟩ := st6 rz
      have ff := fun i => Row.frozen rz i
      have hzz := rz.lt
      replace hgz : wr.heap.size ≤ g6 := hgz
      have rf : Row (put6 w6' g6 0 Y) g6 45 (encS Y) := (((((rz.store 0 (.int .i64 Y.x.a)).store 1 (.int .i64 Y.x.b)).store 2 (.int .i64 Y.y.a)).store 3 (.int .i64 Y.y.b)).store 4 (.int .i64 Y.z.a)).store 5 (.int .i64 Y.z.b)
      have hbf : Below wr.heap.size wr (put6 w6' g6 0 Y) := put6_below hS2 hgz
      have FIN := Lib.hid (And.intro rf hbf)
      obtain ⟨w6, hw6⟩ : ∃ W', put6 w6' g6 0 Y = W' := ⟨_, rfl⟩
      have hw62 : (((((w6'.setCell ⟨g6, 0, none⟩ (.int .i64 Y.x.a)).setCell ⟨g6, 1, none⟩ (.int .i64 Y.x.b)).setCell ⟨g6, 2, none⟩ (.int .i64 Y.y.a)).setCell ⟨g6, 3, none⟩ (.int .i64 Y.y.b)).setCell ⟨g6, 4, none⟩ (.int .i64 Y.z.a)).setCell ⟨g6, 5, none⟩ (.int .i64 Y.z.b) = w6 := hw6
      clear rf hbf hS2 hb2 hg2
      go_upto_region 14 with fail
      obtain ⟨rf, hbf⟩ := FIN.out
      clear FIN rz z0 z1 z2 z3 z4 z5 ff
      rw [hw6] at rf hbf
      try rw [hw62]
      clear hw6 hw62 hzz
      have rfY := rf
      have hbY := hbf
      have hgY := hgz
      have hw6 : w.heap.size < w6.heap.size := by have := hbY.size; omega
      have hgl6 := rfY.lt
      clear rf hbf hgz A1
      refine wp_region_detA 12 11 12 [10] (fun w' => Below w6.heap.size w6 w') (.cells #[.int .i64 0, .int .i64 0, .int .i64 0, .int .i64 0, .int .i64 0, .int .i64 0] 45) (fun b => .pointer (some ⟨b, 0, none⟩)) (by kernel_rfl) (by kernel_rfl) (fun _ _ d _ _ h => by cases d <;> exact h) (Below.refl _ _).drew (fun w o h => h.alloc h.size o) ?_
      refine wpDetA_take (v := ?_) (by decide) rfl (by kernel_rfl) (fun w' hSw => ?_) ?_
      rotate_left 1
      · skip
        go_simp
        with_reducible rfl
      simp only [Act.put, List.getElem_toArray, List.getElem_cons_succ, List.getElem_cons_zero, List.setIfInBounds_toArray, List.set_cons_zero, List.set_cons_succ]
      refine wpDetA_take (v := .agg #[.int .i64 Y.x.a, .int .i64 Y.x.b, .int .i64 Y.y.a, .int .i64 Y.y.b, .int .i64 Y.z.a, .int .i64 Y.z.b]) (by decide) rfl (by kernel_rfl) (fun w' hSw => exec_load (ty := 45) (x := .tmp 10) (p := .pointer (some ⟨g6, 0, none⟩)) (by kernel_rfl) (by kernel_rfl) (run_loadAt_mid w' (g6) (0) 45 _ _ (range_below (range_row rfY) hSw hgl6) Tryz.underlying45 rfl hi6)) ?_
      simp only [Act.put, List.getElem_toArray, List.getElem_cons_succ, List.getElem_cons_zero, List.setIfInBounds_toArray, List.set_cons_zero, List.set_cons_succ]
      iterate 4
        refine wpDetA_take (v := ?_) (by decide) rfl (by kernel_rfl) (fun w' hSw => ?_) ?_
        rotate_left 1
        · have c0 := (hSw.cell (p := ⟨w.heap.size, 3, none⟩) hw6).trans ((hbY.cell (p := ⟨w.heap.size, 3, none⟩) hw0).trans u3)
          go_simp
          with_reducible rfl
        simp only [Act.put, List.getElem_toArray, List.getElem_cons_succ, List.getElem_cons_zero, List.setIfInBounds_toArray, List.set_cons_zero, List.set_cons_succ]
      refine wpDetA_take (v := .agg #[.int .i64 rr.p, .int .i64 rr.q, .int .i64 rr.r]) (by decide) rfl (by kernel_rfl) (fun w' hSw => exec_load (ty := 56) (x := .tmp 67) (p := .pointer (some ⟨b3, o3 + k * 3, none⟩)) (by kernel_rfl) (by kernel_rfl) (run_loadAt_mid w' (b3) (o3 + k * 3) 56 _ _ (range_below (range_below e3' hbY hb3') hSw (by omega)) Tryz.underlying56 rfl hi3)) ?_
      simp only [Act.put, List.getElem_toArray, List.getElem_cons_succ, List.getElem_cons_zero, List.setIfInBounds_toArray, List.set_cons_zero, List.set_cons_succ]
      refine wpDetA_call (v := .tuple #[.agg #[.int .i64 V.x.a, .int .i64 V.x.b, .int .i64 V.y.a, .int .i64 V.y.b, .int .i64 V.z.a, .int .i64 V.z.b], .int .i64 z2]) (by decide) rfl (by kernel_rfl) (fun w' hSw K hK => ?_) ?_
      · go_simp
        go_at_call 31
        refine (A2.out _).mono ?_
        rintro e w1 ⟨rfl, hb⟩
        exact hK _ (hSw.trans (hb.mono hSw.size)) hb
      simp only [Act.put, List.getElem_toArray, List.getElem_cons_succ, List.getElem_cons_zero, List.setIfInBounds_toArray, List.set_cons_zero, List.set_cons_succ]
      iterate 2
        refine wpDetA_take (v := ?_) (by decide) rfl (by kernel_rfl) (fun w' hSw => ?_) ?_
        rotate_left 1
        · skip
          go_simp
          with_reducible rfl
        simp only [Act.put, List.getElem_toArray, List.getElem_cons_succ, List.getElem_cons_zero, List.setIfInBounds_toArray, List.set_cons_zero, List.set_cons_succ]
      refine wpDetA_free (v := ?_) (by decide) rfl (by kernel_rfl) (fun w' => ?_) ?_
      rotate_left 1
      · go_simp
        with_reducible rfl
      simp only [Act.put, List.getElem_toArray, List.getElem_cons_succ, List.getElem_cons_zero, List.setIfInBounds_toArray, List.set_cons_zero, List.set_cons_succ]
      refine wpDetA_lay rfl rfl (fun a w => by go_simp) ?_
      simp only [Act.put, List.getElem_toArray, List.getElem_cons_succ, List.getElem_cons_zero, List.setIfInBounds_toArray, List.set_cons_zero, List.set_cons_succ]
      refine wpDetA_done ?_
      intro g7 w7' hS2 hg2 hgz hb2
      simp only [List.drop_succ_cons, List.drop_zero, Act.put, List.getElem_toArray, List.getElem_cons_succ, List.getElem_cons_zero, List.setIfInBounds_toArray, List.set_cons_zero, List.set_cons_succ]
      have rz := row_heap hg2
      obtain ⟨z0, z1, z2, z3, z4, z5⟩ := st6 rz
      have ff := fun i => Row.frozen rz i
      have hzz := rz.lt
      replace hgz : w6.heap.size ≤ g7 := hgz
      have rf : Row (put6 w7' g7 0 V) g7 45 (encS V) := (((((rz.store 0 (.int .i64 V.x.a)).store 1 (.int .i64 V.x.b)).store 2 (.int .i64 V.y.a)).store 3 (.int .i64 V.y.b)).store 4 (.int .i64 V.z.a)).store 5 (.int .i64 V.z.b)
      have hbf : Below w6.heap.size w6 (put6 w7' g7 0 V) := put6_below hS2 hgz
      have FIN := Lib.hid (And.intro rf hbf)
      obtain ⟨w7, hw7⟩ : ∃ W', put6 w7' g7 0 V = W' := ⟨_, rfl⟩
      have hw72 : (((((w7'.setCell ⟨g7, 0, none⟩ (.int .i64 V.x.a)).setCell ⟨g7, 1, none⟩ (.int .i64 V.x.b)).setCell ⟨g7, 2, none⟩ (.int .i64 V.y.a)).setCell ⟨g7, 3, none⟩ (.int .i64 V.y.b)).setCell ⟨g7, 4, none⟩ (.int .i64 V.z.a)).setCell ⟨g7, 5, none⟩ (.int .i64 V.z.b) = w7 := hw7
      clear rf hbf hS2 hb2 hg2
      go_upto_region 15 with fail
      obtain ⟨rf, hbf⟩ := FIN.out
      clear FIN rz z0 z1 z2 z3 z4 z5 ff
      rw [hw7] at rf hbf
      try rw [hw72]
      clear hw7 hw72 hzz
      have rfV := rf
      have hgV := hgz
      have hb7 : Below wr.heap.size wr w7 := hbY.trans (hbf.mono hbY.size)
      have rfY7 := rfY.below hbf hgl6
      clear rf hgz hbf A2 rfY hgl6 hw6
      have hz7 := hb7.size
      have hg67 : wr.heap.size ≤ g7 := by have := hbY.size; omega
      have hl7 := rfV.lt
      clear hbY
      obtain ⟨vm, vl, vr, mx0, oM0, oL0, oR0, a1, a2, a3⟩ := hMk.mx
      have hgr7 := grown_below' hb7 none
      have mx7 := mx0.below hb7 mx0.lt
      have oM7 := oM0.kept hgr7 (own_free fun _ _ e => by cases e)
      have oL7 := oL0.kept hgr7 (own_free fun _ _ e => by cases e)
      have oR7 := oR0.kept hgr7 (own_free fun _ _ e => by cases e)
      have hM7 := hMk.below hb7
      have hvm := fun q e => (oM0.lt q e)
      have hvl := fun q e => (oL0.lt q e)
      have hvr := fun q e => (oR0.lt q e)
      clear mx0 oM0 oL0 oR0 hgr7 hMk
      -- the letter is appended
      obtain ⟨j0, hj, hy0, hy1, hy2⟩ := info_parts infoS6
      obtain ⟨n0, n1, n2, n3, n4, n5⟩ := st6 rfY7
      have c1 : w7.cell? ⟨gO + 1, 1, none⟩ = some vm := mx7.cell 1
      have hx7 := mx7.lt
      have hba := below_alloc' w7 (.cells #[.int .i64 Y.x.a, .int .i64 Y.x.b, .int .i64 Y.y.a, .int .i64 Y.y.b, .int .i64 Y.z.a, .int .i64 Y.z.b] 45)
      have rY := Row.new w7 45 [.int .i64 Y.x.a, .int .i64 Y.x.b, .int .i64 Y.y.a, .int .i64 Y.y.b, .int .i64 Y.z.a, .int .i64 Y.z.b]
      have mx8 := mx7.alloc (.cells #[.int .i64 Y.x.a, .int .i64 Y.x.b, .int .i64 Y.y.a, .int .i64 Y.y.b, .int .i64 Y.z.a, .int .i64 Y.z.b] 45)
      have oM8 := World.ownsRow.alloc oM7 (.cells #[.int .i64 Y.x.a, .int .i64 Y.x.b, .int .i64 Y.y.a, .int .i64 Y.y.b, .int .i64 Y.z.a, .int .i64 Y.z.b] 45)
      have oL8 := World.ownsRow.alloc oL7 (.cells #[.int .i64 Y.x.a, .int .i64 Y.x.b, .int .i64 Y.y.a, .int .i64 Y.y.b, .int .i64 Y.z.a, .int .i64 Y.z.b] 45)
      have oR8 := World.ownsRow.alloc oR7 (.cells #[.int .i64 Y.x.a, .int .i64 Y.x.b, .int .i64 Y.y.a, .int .i64 Y.y.b, .int .i64 Y.z.a, .int .i64 Y.z.b] 45)
      have hM8 := hM7.below hba
      have rV8 := rfV.alloc (.cells #[.int .i64 Y.x.a, .int .i64 Y.x.b, .int .i64 Y.y.a, .int .i64 Y.y.b, .int .i64 Y.z.a, .int .i64 Y.z.b] 45)
      have hz8 : (w7.alloc (.cells #[.int .i64 Y.x.a, .int .i64 Y.x.b, .int .i64 Y.y.a, .int .i64 Y.y.b, .int .i64 Y.z.a, .int .i64 Y.z.b] 45)).heap.size = w7.heap.size + 1 := by simp
      have ft := fun (w9 : World) (g8 cap8 : Nat) hown hgr hat => Rm.growM (W' := w9) (g := g8) (cap := cap8) (s := Y) hM8 mx8 oM8 oL8 oR8 a1 a2 a3 hown hgr hat
      have HFT := Lib.hid ft
      have HO8 := Lib.hid oM8
      have HMX8 := Lib.hid mx8
      have HV8 := Lib.hid rV8
      have HRY := Lib.hid rY
      clear ft mx8 oM8 oL8 oR8 hM8 rV8 rY hM7 mx7 oM7 oL7 oR7 rfV rfY7 tn hba
      go_upto_region 16 with (at_builtin; refine wpList_append_lies _ rfl _ _ 22 rfl (gO + 2) 45 j0 (.agg #[.int .i64 0, .int .i64 0, .int .i64 0, .int .i64 0, .int .i64 0, .int .i64 0]) 6 48 Tryz.underlying22 hj hy0 hy1 hy2 rfl (by decide) _ _ _ rfl HO8.out ⟨w7.heap.size, 0, none⟩ 1 1 [.int .i64 Y.x.a, .int .i64 Y.x.b, .int .i64 Y.y.a, .int .i64 Y.y.b, .int .i64 Y.z.a, .int .i64 Y.z.b] rfl rfl (cells_row HRY.out) (by simp [Value.oneCell']) (by decide) (by rw [HML.out]; unfold maxLen; omega) (by rw [HML.out]; omega) (by omega) _ rfl ?_; intro g8 cap8 w9 hown hgr hat hlt8; have hof : ∀ b : Nat, b < gO + 2 ∨ b = g7 → w9.heap[b]? = (w7.alloc (.cells #[.int .i64 Y.x.a, .int .i64 Y.x.b, .int .i64 Y.y.a, .int .i64 Y.y.b, .int .i64 Y.z.a, .int .i64 Y.z.b] 45)).heap[b]? := fun b hb => hgr.block b (by omega) (fun e => by have := hvm b e.symm; omega); have mx9 := HMX8.out.keep (hof _ (.inl (by omega))); have c9 : w9.cell? ⟨gO + 1, 1, none⟩ = some vm := mx9.cell 1; have f9 := Row.frozen mx9 1; have hx9 := mx9.lt)
      have hM10 := HFT.out w9 g8 cap8 hown hgr (hat.imp id (fun e => Nat.le_of_eq e.symm))
      rw [HMSU.out] at hM10
      have rV9 : Row w9 g7 45 (encS V) := HV8.out.keep (hof _ (.inr rfl))
      have rV10 : Row (w9.setCell ⟨gO + 1, 1, none⟩ (.slice (some ⟨g8, 0, none⟩) (M.length + 1) cap8)) g7 45 (encS V) := Row.other rV9 (by simp only []; omega) _
      clear mx9 c9 f9 hx9 hof hown hgr hat hlt8 HFT HO8 HMX8 HV8 HRY rV9 c1 hx7 hvm hvl hvr n0 n1 n2 n3 n4 n5
      generalize w9.setCell ⟨gO + 1, 1, none⟩ (.slice (some ⟨g8, 0, none⟩) (M.length + 1) cap8) = w10 at *
      have tn10 := hM10.tn
      rw [HXX.out] at tn10
      obtain ⟨u0, u1, u2, u3, u4⟩ := st5c tn10
      have hB10 := hM10.b
      have hz10 := hM10.z
      obtain ⟨vm', vl', vr', mxx, _⟩ := hM10.mx
      have x2 : w10.cell? ⟨gO + 1, 2, none⟩ = some (.slice (some ⟨gO, 0, none⟩) s.length s.length) := mxx.cell 2
      have hx10 := mxx.lt
      have hw10 : w.heap.size < w10.heap.size := by omega
      have d1'' : w10.cell? ⟨b1, o1 + k, none⟩ = some (.int .i64 p2) := (hB10.cell (p := ⟨b1, o1 + k, none⟩) hb1).trans D1.out
      have hb1'' : b1 < w10.heap.size := by omega
      have hl10 := rV10.lt
      clear mxx
      go_upto_region 16 with fail
      refine wp_region_det 9 (fun w' => Below w10.heap.size w10 w') (by kernel_rfl) (by kernel_rfl) (Below.refl _ _).drew ?_
      iterate 7
        refine wpDet_take (v := ?_) rfl (by kernel_rfl) (fun w' hSw => ?_) ?_
        rotate_left 1
        · have c0 := (hSw.cell (p := ⟨gO + 1, 2, none⟩) hx10).trans x2
          have c1 := (hSw.cell (p := ⟨w.heap.size, 1, none⟩) hw10).trans u1
          have c2 := (hSw.cell (p := ⟨b1, o1 + k, none⟩) hb1'').trans d1''
          go_simp
          with_reducible rfl
        simp only [Act.put, List.getElem_toArray, List.getElem_cons_succ, List.getElem_cons_zero, List.setIfInBounds_toArray, List.set_cons_zero, List.set_cons_succ]
      refine wpDet_take (v := .agg #[.int .i64 V.x.a, .int .i64 V.x.b, .int .i64 V.y.a, .int .i64 V.y.b, .int .i64 V.z.a, .int .i64 V.z.b]) rfl (by kernel_rfl) (fun w' hSw => exec_load (ty := 45) (x := .tmp 12) (p := .pointer (some ⟨g7, 0, none⟩)) (by kernel_rfl) (by kernel_rfl) (run_loadAt_mid w' (g7) (0) 45 _ _ (range_below (range_row rV10) hSw hl10) Tryz.underlying45 rfl hi6)) ?_
      simp only [Act.put, List.getElem_toArray, List.getElem_cons_succ, List.getElem_cons_zero, List.setIfInBounds_toArray, List.set_cons_zero, List.set_cons_succ]
      refine wpDet_take (v := ?_) rfl (by kernel_rfl) (fun w' hSw => ?_) ?_
      rotate_left 1
      · skip
        go_simp
        with_reducible rfl
      simp only [Act.put, List.getElem_toArray, List.getElem_cons_succ, List.getElem_cons_zero, List.setIfInBounds_toArray, List.set_cons_zero, List.set_cons_succ]
      refine wpDet_done ?_
      intro w11 hS11
      simp only [List.drop_succ_cons, List.drop_zero]
      have hM11 := hM10.below hS11
      obtain ⟨m0, m1, m2, m3, m4, m5⟩ := cells6 hM11.ro (k := p2) (by rw [HOL.out]; omega) (by rw [HOL.out]; omega)
      have ff := fun i => Row.frozen hM11.ro i
      have hro := hM11.ro.lt
      have fin := hM11.setO (k := p2) (by rw [HOL.out]; omega) V
      rw [← HLAY.out] at fin
      have FIN := Lib.hid fin
      obtain ⟨w12, hW12⟩ : ∃ W', put6 w11 gO (p2 * 6) V = W' := ⟨_, rfl⟩
      have hW12b : (((((w11.setCell ⟨gO, p2 * 6, none⟩ (.int .i64 V.x.a)).setCell ⟨gO, p2 * 6 + 1, none⟩ (.int .i64 V.x.b)).setCell ⟨gO, p2 * 6 + 2, none⟩ (.int .i64 V.y.a)).setCell ⟨gO, p2 * 6 + 3, none⟩ (.int .i64 V.y.b)).setCell ⟨gO, p2 * 6 + 4, none⟩ (.int .i64 V.z.a)).setCell ⟨gO, p2 * 6 + 5, none⟩ (.int .i64 V.z.b) = w12 := hW12
      clear fin hM10 hS11 hM11 rV10 tn10 u0 u1 u2 u3 u4 x2 d1'' hb1'' hl10 hx10
      go_upto_region 17 with fail
      have hM12 := FIN.out
      rw [hW12] at hM12
      try rw [hW12b]
      clear FIN hW12 hW12b m0 m1 m2 m3 m4 m5 ff hro
      obtain ⟨vm, vl, vr, mx, oM, oL, oR, a1, a2, a3⟩ := hM12.mx
      have tn := hM12.tn
      rw [HXX.out] at tn
      have hBW := hM12.b
      have hzW := hM12.z
      have hS : ∀ w' : World, (∀ b : Nat, b < gO + 2 → w'.heap[b]? = w12.heap[b]?) → w'.cell? ⟨gO + 1, 3, none⟩ = some vl ∧ w'.rangeAt w.heap.size 0 [.slice (some ⟨b0, o0, none⟩) s.length cl, .slice (some ⟨b1, o1, none⟩) s.length cr, .slice (some ⟨b2, o2, none⟩) s.length crl, .slice (some ⟨b3, o3, none⟩) s.length crr, .slice at_ s.length ct] := fun w' hk' => ⟨(World.cell?_of_block (w := w12) (hk' _ (by simp only []; omega))).trans (mx.cell 3), range_row (Row.keep tn (hk' _ (by omega)))⟩
      refine wp_region_tree 8 (.take 0 (.take 1 (.take 2 (.take 3 (.one 4 (.one 5 (.one 6 (.one 7 .done)))))))) (fun w' => w'.cell? ⟨gO + 1, 3, none⟩ = some vl ∧ w'.rangeAt w.heap.size 0 [.slice (some ⟨b0, o0, none⟩) s.length cl, .slice (some ⟨b1, o1, none⟩) s.length cr, .slice (some ⟨b2, o2, none⟩) s.length crl, .slice (some ⟨b3, o3, none⟩) s.length crr, .slice at_ s.length ct]) (by kernel_rfl) (by kernel_rfl) (fun _ _ d _ _ h => by cases d <;> exact h) (hS _ (fun b hb => rfl)) ?_
      have hd := (Below.refl w12.heap.size w12).drew
      have hh1 : ∀ b : Nat, w12.drew.heap[b]? = w12.heap[b]? := fun b => rfl
      have hzV : gO + 2 ≤ w12.drew.heap.size := hzW
      have hM1 := hM12.below hd
      have hgd := grown_below' hd none
      have mx1 := mx.below hd mx.lt
      have oM1 := oM.kept hgd (own_free fun _ _ e => by cases e)
      have oL1 := oL.kept hgd (own_free fun _ _ e => by cases e)
      have oR1 := oR.kept hgd (own_free fun _ _ e => by cases e)
      have HS := Lib.hid hS
      clear hS mx tn oM oL oR hM12 hd hgd
      generalize w12.drew = V1 at *
      iterate 2
        refine wpTree_take (v := ?_) rfl (by kernel_rfl) (fun w hSw => ?_) ?_
        rotate_left 1
        · have c0 := hSw.1
          go_simp
          with_reducible rfl
        simp only [Act.put, List.getElem_toArray, List.getElem_cons_succ, List.getElem_cons_zero, List.setIfInBounds_toArray, List.set_cons_zero, List.set_cons_succ]
      refine wpTree_take (v := .agg #[.slice (some ⟨b0, o0, none⟩) s.length cl, .slice (some ⟨b1, o1, none⟩) s.length cr, .slice (some ⟨b2, o2, none⟩) s.length crl, .slice (some ⟨b3, o3, none⟩) s.length crr, .slice at_ s.length ct]) rfl (by kernel_rfl) (fun w' hSw => exec_load (ty := 27) (x := .tmp 5) (p := .pointer (some ⟨w.heap.size, 0, none⟩)) (by kernel_rfl) (by kernel_rfl) (run_loadAt_mid w' (w.heap.size) (0) 27 [.slice (some ⟨b0, o0, none⟩) s.length cl, .slice (some ⟨b1, o1, none⟩) s.length cr, .slice (some ⟨b2, o2, none⟩) s.length crl, .slice (some ⟨b3, o3, none⟩) s.length crr, .slice at_ s.length ct] _ hSw.2 Tryz.underlying27 rfl hi5)) ?_
      simp only [Act.put, List.getElem_toArray, List.getElem_cons_succ, List.getElem_cons_zero, List.setIfInBounds_toArray, List.set_cons_zero, List.set_cons_succ]
      refine wpTree_take (v := ?_) rfl (by kernel_rfl) (fun w hSw => ?_) ?_
      rotate_left 1
      · have c0 := hSw.1
        go_simp
        with_reducible rfl
      simp only [Act.put, List.getElem_toArray, List.getElem_cons_succ, List.getElem_cons_zero, List.setIfInBounds_toArray, List.set_cons_zero, List.set_cons_succ]
      refine wpTree_one rfl (fun K hK => ⟨by kernel_rfl, ?_⟩)
      go_simp
      go_at_call 33
      refine (B4.out _ hM1.b).mono ?_
      rintro e V2 ⟨rfl, hb2n⟩
      refine hK _ _ (HS.out _ (fun b hb => (hb2n.block b (by omega)).trans (hh1 b))) ?_
      clear hK K
      try simp only [Act.put, List.getElem_toArray, List.getElem_cons_succ, List.getElem_cons_zero, List.setIfInBounds_toArray, List.set_cons_zero, List.set_cons_succ]
      refine wpTree_one rfl (fun K hK => ⟨by kernel_rfl, ?_⟩)
      go_simp
      go_at_call 32
      refine (B6.out _).mono ?_
      rintro e V3 ⟨rfl, hb3n⟩
      have hb31 := hb2n.trans (hb3n.mono hb2n.size)
      refine hK _ _ (HS.out _ (fun b hb => (hb31.block b (by omega)).trans (hh1 b))) ?_
      clear hK K
      try simp only [Act.put, List.getElem_toArray, List.getElem_cons_succ, List.getElem_cons_zero, List.setIfInBounds_toArray, List.set_cons_zero, List.set_cons_succ]
      have hdl := HCL.out k
      have hsn := HLSU.out
      obtain ⟨D, hD⟩ : ∃ D, comN tagL (ogL t k) = D := ⟨_, rfl⟩
      rw [hD] at hdl hsn ⊢
      have HSN := Lib.hid hsn
      clear hD hsn
      refine wpTree_one rfl (fun K hK => ⟨by kernel_rfl, ?_⟩)
      refine wp_one 30 58 _ rfl (D.map bv).toArray rfl (one_dg D hdl _) ?_
      have hb41 := hb31.alloc hb31.size (.cells (D.map bv).toArray 58)
      have rd := Row.new V3 58 (D.map bv)
      refine hK _ _ (HS.out _ (fun b hb => (hb41.block b (by omega)).trans (hh1 b))) ?_
      clear hK K
      try simp only [Act.put, List.getElem_toArray, List.getElem_cons_succ, List.getElem_cons_zero, List.setIfInBounds_toArray, List.set_cons_zero, List.set_cons_succ]
      have hg41 := grown_below' hb41 none
      have hM4 := hM1.below hb41
      have mx4 := mx1.below hb41 mx1.lt
      have oM4 := oM1.kept hg41 (own_free fun _ _ e => by cases e)
      have oL4 := oL1.kept hg41 (own_free fun _ _ e => by cases e)
      have oR4 := oR1.kept hg41 (own_free fun _ _ e => by cases e)
      refine wpTree_one rfl (fun K hK => ⟨by kernel_rfl, ?_⟩)
      refine wp_append_lies _ _ _ 30 rfl (gO + 2) 58 id0 (.agg (List.replicate 32 (Value.int .u8 0)).toArray) 32 32 Tryz.underlying30 hid hidz0 hidz1 hidz2 (by simp [Value.cells]) (by decide) _ _ _ rfl oL4 ⟨V3.heap.size, 0, none⟩ 1 1 (D.map bv) rfl (by rw [List.length_map, hdl]) (cells_row rd) (fun u hu => by obtain ⟨y, _, rfl⟩ := List.mem_map.1 hu; rfl) (by decide) (by rw [HLL.out]; unfold maxLen; omega) (by rw [HLL.out]; omega) hM4.z _ rfl ?_
      intro g1n cap1 V5 hown5 hgr5 hat5 hlt5
      have hof : ∀ b : Nat, b < gO + 2 → V5.heap[b]? = (V3.alloc (.cells (D.map bv).toArray 58)).heap[b]? := fun b hb => hgr5.block b (by have := hM4.z; omega) (fun e => by
        have h1 := (oL4.lt b e.symm).1
        omega)
      refine hK _ _ (HS.out _ (fun b hb => (hof b hb).trans ((hb41.block b (by omega)).trans (hh1 b)))) ?_
      clear hK K
      try simp only [Act.put, List.getElem_toArray, List.getElem_cons_succ, List.getElem_cons_zero, List.setIfInBounds_toArray, List.set_cons_zero, List.set_cons_succ]
      refine wpTree_done ?_
      simp only [List.drop_succ_cons, List.drop_zero]
      have mx5 := mx4.keep (hof _ (by omega))
      have hc5 : V5.cell? ⟨gO + 1, 3, none⟩ = some _ := mx5.cell 3
      have hf5 := Row.frozen mx5 3
      have hx5 := mx5.lt
      have hMn := Rm.growL hM4 mx4 oM4 oL4 oR4 a1 a2 a3 D hown5 hgr5 (hat5.imp id (fun e => Nat.le_of_eq e.symm))
      rw [HSN.out] at hMn
      have HMN := Lib.hid hMn
      clear mx5 mx4 oM4 oL4 oR4 oM1 oL1 oR1 mx1 hown5 hgr5 hat5 hM4 hM1 hof a1 a2 a3 hg41 hb41 hb31 hb2n hb3n HS hh1 rd hMn
      go_upto_region 18 with fail
      have hM13 := HMN.out
      clear HMN hc5 hf5 hx5
      generalize V5.setCell ⟨gO + 1, 3, none⟩ (.slice (some ⟨g1n, 0, none⟩) (L.length + 1) cap1) = w13 at *
      clear hdl HSN
      obtain ⟨vm, vl, vr, mx, oM, oL, oR, a1, a2, a3⟩ := hM13.mx
      have tn := hM13.tn
      rw [HXX.out] at tn
      have hBW := hM13.b
      have hzW := hM13.z
      have hS : ∀ w' : World, (∀ b : Nat, b < gO + 2 → w'.heap[b]? = w13.heap[b]?) → w'.cell? ⟨gO + 1, 4, none⟩ = some vr ∧ w'.rangeAt w.heap.size 0 [.slice (some ⟨b0, o0, none⟩) s.length cl, .slice (some ⟨b1, o1, none⟩) s.length cr, .slice (some ⟨b2, o2, none⟩) s.length crl, .slice (some ⟨b3, o3, none⟩) s.length crr, .slice at_ s.length ct] := fun w' hk' => ⟨(World.cell?_of_block (w := w13) (hk' _ (by simp only []; omega))).trans (mx.cell 4), range_row (Row.keep tn (hk' _ (by omega)))⟩
      refine wp_region_tree 8 (.take 0 (.take 1 (.take 2 (.take 3 (.one 4 (.one 5 (.one 6 (.one 7 .done)))))))) (fun w' => w'.cell? ⟨gO + 1, 4, none⟩ = some vr ∧ w'.rangeAt w.heap.size 0 [.slice (some ⟨b0, o0, none⟩) s.length cl, .slice (some ⟨b1, o1, none⟩) s.length cr, .slice (some ⟨b2, o2, none⟩) s.length crl, .slice (some ⟨b3, o3, none⟩) s.length crr, .slice at_ s.length ct]) (by kernel_rfl) (by kernel_rfl) (fun _ _ d _ _ h => by cases d <;> exact h) (hS _ (fun b hb => rfl)) ?_
      have hd := (Below.refl w13.heap.size w13).drew
      have hh1 : ∀ b : Nat, w13.drew.heap[b]? = w13.heap[b]? := fun b => rfl
      have hzV : gO + 2 ≤ w13.drew.heap.size := hzW
      have hM1 := hM13.below hd
      have hgd := grown_below' hd none
      have mx1 := mx.below hd mx.lt
      have oM1 := oM.kept hgd (own_free fun _ _ e => by cases e)
      have oL1 := oL.kept hgd (own_free fun _ _ e => by cases e)
      have oR1 := oR.kept hgd (own_free fun _ _ e => by cases e)
      have HS := Lib.hid hS
      clear hS mx tn oM oL oR hM13 hd hgd
      generalize w13.drew = V1 at *
      iterate 2
        refine wpTree_take (v := ?_) rfl (by kernel_rfl) (fun w hSw => ?_) ?_
        rotate_left 1
        · have c0 := hSw.1
          go_simp
          with_reducible rfl
        simp only [Act.put, List.getElem_toArray, List.getElem_cons_succ, List.getElem_cons_zero, List.setIfInBounds_toArray, List.set_cons_zero, List.set_cons_succ]
      refine wpTree_take (v := .agg #[.slice (some ⟨b0, o0, none⟩) s.length cl, .slice (some ⟨b1, o1, none⟩) s.length cr, .slice (some ⟨b2, o2, none⟩) s.length crl, .slice (some ⟨b3, o3, none⟩) s.length crr, .slice at_ s.length ct]) rfl (by kernel_rfl) (fun w' hSw => exec_load (ty := 27) (x := .tmp 5) (p := .pointer (some ⟨w.heap.size, 0, none⟩)) (by kernel_rfl) (by kernel_rfl) (run_loadAt_mid w' (w.heap.size) (0) 27 [.slice (some ⟨b0, o0, none⟩) s.length cl, .slice (some ⟨b1, o1, none⟩) s.length cr, .slice (some ⟨b2, o2, none⟩) s.length crl, .slice (some ⟨b3, o3, none⟩) s.length crr, .slice at_ s.length ct] _ hSw.2 Tryz.underlying27 rfl hi5)) ?_
      simp only [Act.put, List.getElem_toArray, List.getElem_cons_succ, List.getElem_cons_zero, List.setIfInBounds_toArray, List.set_cons_zero, List.set_cons_succ]
      refine wpTree_take (v := ?_) rfl (by kernel_rfl) (fun w hSw => ?_) ?_
      rotate_left 1
      · have c0 := hSw.1
        go_simp
        with_reducible rfl
      simp only [Act.put, List.getElem_toArray, List.getElem_cons_succ, List.getElem_cons_zero, List.setIfInBounds_toArray, List.set_cons_zero, List.set_cons_succ]
      refine wpTree_one rfl (fun K hK => ⟨by kernel_rfl, ?_⟩)
      go_simp
      go_at_call 33
      refine (B5.out _ hM1.b).mono ?_
      rintro e V2 ⟨rfl, hb2n⟩
      refine hK _ _ (HS.out _ (fun b hb => (hb2n.block b (by omega)).trans (hh1 b))) ?_
      clear hK K
      try simp only [Act.put, List.getElem_toArray, List.getElem_cons_succ, List.getElem_cons_zero, List.setIfInBounds_toArray, List.set_cons_zero, List.set_cons_succ]
      refine wpTree_one rfl (fun K hK => ⟨by kernel_rfl, ?_⟩)
      go_simp
      go_at_call 32
      refine (B7.out _).mono ?_
      rintro e V3 ⟨rfl, hb3n⟩
      have hb31 := hb2n.trans (hb3n.mono hb2n.size)
      refine hK _ _ (HS.out _ (fun b hb => (hb31.block b (by omega)).trans (hh1 b))) ?_
      clear hK K
      try simp only [Act.put, List.getElem_toArray, List.getElem_cons_succ, List.getElem_cons_zero, List.setIfInBounds_toArray, List.set_cons_zero, List.set_cons_succ]
      have hdl := HCR.out k
      have hsn := HRSU.out
      obtain ⟨D, hD⟩ : ∃ D, comN tagR (ogR t k) = D := ⟨_, rfl⟩
      rw [hD] at hdl hsn ⊢
      have HSN := Lib.hid hsn
      clear hD hsn
      refine wpTree_one rfl (fun K hK => ⟨by kernel_rfl, ?_⟩)
      refine wp_one 30 58 _ rfl (D.map bv).toArray rfl (one_dg D hdl _) ?_
      have hb41 := hb31.alloc hb31.size (.cells (D.map bv).toArray 58)
      have rd := Row.new V3 58 (D.map bv)
      refine hK _ _ (HS.out _ (fun b hb => (hb41.block b (by omega)).trans (hh1 b))) ?_
      clear hK K
      try simp only [Act.put, List.getElem_toArray, List.getElem_cons_succ, List.getElem_cons_zero, List.setIfInBounds_toArray, List.set_cons_zero, List.set_cons_succ]
      have hg41 := grown_below' hb41 none
      have hM4 := hM1.below hb41
      have mx4 := mx1.below hb41 mx1.lt
      have oM4 := oM1.kept hg41 (own_free fun _ _ e => by cases e)
      have oL4 := oL1.kept hg41 (own_free fun _ _ e => by cases e)
      have oR4 := oR1.kept hg41 (own_free fun _ _ e => by cases e)
      refine wpTree_one rfl (fun K hK => ⟨by kernel_rfl, ?_⟩)
      refine wp_append_lies _ _ _ 30 rfl (gO + 2) 58 id0 (.agg (List.replicate 32 (Value.int .u8 0)).toArray) 32 32 Tryz.underlying30 hid hidz0 hidz1 hidz2 (by simp [Value.cells]) (by decide) _ _ _ rfl oR4 ⟨V3.heap.size, 0, none⟩ 1 1 (D.map bv) rfl (by rw [List.length_map, hdl]) (cells_row rd) (fun u hu => by obtain ⟨y, _, rfl⟩ := List.mem_map.1 hu; rfl) (by decide) (by rw [HRL.out]; unfold maxLen; omega) (by rw [HRL.out]; omega) hM4.z _ rfl ?_
      intro g1n cap1 V5 hown5 hgr5 hat5 hlt5
      have hof : ∀ b : Nat, b < gO + 2 → V5.heap[b]? = (V3.alloc (.cells (D.map bv).toArray 58)).heap[b]? := fun b hb => hgr5.block b (by have := hM4.z; omega) (fun e => by
        have h1 := (oR4.lt b e.symm).1
        omega)
      refine hK _ _ (HS.out _ (fun b hb => (hof b hb).trans ((hb41.block b (by omega)).trans (hh1 b)))) ?_
      clear hK K
      try simp only [Act.put, List.getElem_toArray, List.getElem_cons_succ, List.getElem_cons_zero, List.setIfInBounds_toArray, List.set_cons_zero, List.set_cons_succ]
      refine wpTree_done ?_
      simp only [List.drop_succ_cons, List.drop_zero]
      have mx5 := mx4.keep (hof _ (by omega))
      have hc5 : V5.cell? ⟨gO + 1, 4, none⟩ = some _ := mx5.cell 4
      have hf5 := Row.frozen mx5 4
      have hx5 := mx5.lt
      have hMn := Rm.growR hM4 mx4 oM4 oL4 oR4 a1 a2 a3 D hown5 hgr5 (hat5.imp id (fun e => Nat.le_of_eq e.symm))
      rw [HSN.out] at hMn
      have HMN := Lib.hid hMn
      clear mx5 mx4 oM4 oL4 oR4 oM1 oL1 oR1 mx1 hown5 hgr5 hat5 hM4 hM1 hof a1 a2 a3 hg41 hb41 hb31 hb2n hb3n HS hh1 rd hMn
      go_wp2_with fail
      go_roundg (gk - 1)
      case measure => omega
      case rel => exact ⟨k + 1, by first | rfl | go_num, by omega, HMN.out⟩
    · obtain rfl : k = s.length := by omega
      obtain ⟨vm, vl, vr, mx, oM, oL, oR, _, _, _⟩ := hMk.mx
      have hMn : (midsR key s t s.length).length = s.length := by simp [midsR]
      have hLn : (leftsTo t s.length).length = s.length := by simp [leftsTo]
      have hRn : (rightsTo t s.length).length = s.length := by simp [rightsTo]
      have hMe : midsR key s t s.length = (mixTo key s t s.length).m := by show midsR key s t s.length = (List.range s.length).map (midAt key s t) ++ List.replicate (s.length - s.length) default; simp [midsR]
      obtain ⟨hw, hgO⟩ := hMk.ho
      have hgx2 := hMk.hx
      obtain ⟨_, am', cm', rfl, _⟩ := own_slM oM (fun d hd => rfl) rfl (by rw [hMn]; omega)
      obtain ⟨_, al', cl', rfl, _⟩ := own_slM oL (fun d hd => by
        obtain ⟨j, _, rfl⟩ := List.mem_map.1 hd
        unfold encD; rw [List.length_map]; exact comN_length _ _) rfl (by rw [hLn]; omega)
      obtain ⟨_, ar', cr', rfl, _⟩ := own_slM oR (fun d hd => by
        obtain ⟨j, _, rfl⟩ := List.mem_map.1 hd
        unfold encD; rw [List.length_map]; exact comN_length _ _) rfl (by rw [hRn]; omega)
      obtain ⟨WF, hWF⟩ : ∃ W', put5 wr (w.heap.size + 1) (.slice A s.length c) (.slice am' s.length cm') (.slice (some ⟨gO, 0, none⟩) s.length s.length) (.slice al' s.length cl') (.slice ar' s.length cr') = W' := ⟨_, rfl⟩
      have oMF := own_put5 (g := w.heap.size + 1) (a := .slice A s.length c) (b := .slice am' s.length cm') (c := .slice (some ⟨gO, 0, none⟩) s.length s.length) (d := .slice al' s.length cl') (e := .slice ar' s.length cr') oM (by omega)
      have oLF := own_put5 (g := w.heap.size + 1) (a := .slice A s.length c) (b := .slice am' s.length cm') (c := .slice (some ⟨gO, 0, none⟩) s.length s.length) (d := .slice al' s.length cl') (e := .slice ar' s.length cr') oL (by omega)
      have oRF := own_put5 (g := w.heap.size + 1) (a := .slice A s.length c) (b := .slice am' s.length cm') (c := .slice (some ⟨gO, 0, none⟩) s.length s.length) (d := .slice al' s.length cl') (e := .slice ar' s.length cr') oR (by omega)
      have roF := row_put5 (g := w.heap.size + 1) (a := .slice A s.length c) (b := .slice am' s.length cm') (c := .slice (some ⟨gO, 0, none⟩) s.length s.length) (d := .slice al' s.length cl') (e := .slice ar' s.length cr') hMk.ro (by omega)
      have hbF := below_put5 (g := w.heap.size + 1) (a := .slice A s.length c) (b := .slice am' s.length cm') (c := .slice (some ⟨gO, 0, none⟩) s.length s.length) (d := .slice al' s.length cl') (e := .slice ar' s.length cr') hMk.b (Nat.le_succ _)
      have fl : Row (put5 wr (w.heap.size + 1) (.slice A s.length c) (.slice am' s.length cm') (.slice (some ⟨gO, 0, none⟩) s.length s.length) (.slice al' s.length cl') (.slice ar' s.length cr')) (w.heap.size + 1) 32 [.slice A s.length c, .slice am' s.length cm', .slice (some ⟨gO, 0, none⟩) s.length s.length, .slice al' s.length cl', .slice ar' s.length cr'] := ((((hMk.rs.store 0 (.slice A s.length c)).store 1 (.slice am' s.length cm')).store 2 (.slice (some ⟨gO, 0, none⟩) s.length s.length)).store 3 (.slice al' s.length cl')).store 4 (.slice ar' s.length cr')
      rw [hWF] at oMF oLF oRF roF hbF fl
      have sm : SlS WF WF.heap.size (.slice am' (midsR key s t s.length).length cm') (midsR key s t s.length) := own_slM oMF (fun d hd => rfl) rfl (by rw [hMn]; omega)
      have sl : SlG 32 encD WF WF.heap.size (.slice al' (leftsTo t s.length).length cl') (leftsTo t s.length) := own_slM oLF (fun d hd => by
        obtain ⟨j, _, rfl⟩ := List.mem_map.1 hd
        unfold encD; rw [List.length_map]; exact comN_length _ _) rfl (by rw [hLn]; omega)
      have sr : SlG 32 encD WF WF.heap.size (.slice ar' (rightsTo t s.length).length cr') (rightsTo t s.length) := own_slM oRF (fun d hd => by
        obtain ⟨j, _, rfl⟩ := List.mem_map.1 hd
        unfold encD; rw [List.length_map]; exact comN_length _ _) rfl (by rw [hRn]; omega)
      have so : SlS WF WF.heap.size (.slice (some ⟨gO, 0, none⟩) s.length s.length) (layTo s.length default t.r (outAt key s t) s.length) := by
        have := Row.sl (c := s.length) (m := 6) roF (fun _ => rfl) (by rw [layTo_length]; omega) roF.lt
        rwa [layTo_length] at this
      have si : SlS WF WF.heap.size (.slice A s.length c) s := (HSS.out.below hbF).mono hbF.size
      rw [hMn] at sm mx
      rw [hLn] at sl mx
      rw [hRn] at sr mx
      rw [hMe] at sm
      have hrs := hMk.rs
      have hgz := mx.lt
      have hrz := hrs.lt
      obtain ⟨x0, x1, x2, x3, x4⟩ := st5c mx
      obtain ⟨y0, y1, y2, y3, y4⟩ := st5c hrs
      have ff := fun i => Row.frozen hrs i
      have l1 : (mixTo key s t s.length).m.length = s.length := by rw [← hMe]; exact hMn
      have l2 : (mixTo key s t s.length).o.length = s.length := layTo_length _ _ _ _ _
      have l3 : (mixTo key s t s.length).l.length = s.length := by show (leftsTo t s.length).length = _; exact hLn
      have l4 : (mixTo key s t s.length).r.length = s.length := by show (rightsTo t s.length).length = _; exact hRn
      have SLL := Lib.hid sl
      have SRR := Lib.hid sr
      have SMM := Lib.hid sm
      have SOO := Lib.hid so
      have SII := Lib.hid si
      have HBF := Lib.hid hbF
      have FL := Lib.hid fl
      have L1 := Lib.hid l1
      have L2 := Lib.hid l2
      have L3 := Lib.hid l3
      have L4 := Lib.hid l4
      have hWFb : ((((wr.setCell ⟨w.heap.size + 1, 0, none⟩ (.slice A s.length c)).setCell ⟨w.heap.size + 1, 1, none⟩ (.slice am' s.length cm')).setCell ⟨w.heap.size + 1, 2, none⟩ (.slice (some ⟨gO, 0, none⟩) s.length s.length)).setCell ⟨w.heap.size + 1, 3, none⟩ (.slice al' s.length cl')).setCell ⟨w.heap.size + 1, 4, none⟩ (.slice ar' s.length cr') = WF := hWF
      have HWF := Lib.hid hWFb
      clear sl sr sm so si hbF fl l1 l2 l3 l4 hWF hWFb hMn hLn hRn hMe oMF oLF oRF roF oM oL oR hMk hrs mx
      go_wp2_with fail
      rw [HWF.out]
      obtain ⟨y0, y1, y2, y3, y4⟩ := st5c FL.out
      refine bodyPost_ret (v := .tuple #[.agg #[.slice A s.length c, .slice am' s.length cm', .slice (some ⟨gO, 0, none⟩) s.length s.length, .slice al' s.length cl', .slice ar' s.length cr'], .int .i64 0]) (by simp [results, Tryz.results8, go_sem, y0, y1, y2, y3, y4]) rfl ?_
      refine ⟨⟨A, c, am', cm', some ⟨gO, 0, none⟩, s.length, al', cl', ar', cr'⟩, ?_, HBF.out, ⟨SII.out, ?_, ?_, ?_, ?_⟩⟩
      · unfold MxA.cells
        rw [L1.out, L2.out, L3.out, L4.out]
        rfl
      · rw [L1.out]; exact SMM.out
      · rw [L2.out]; exact SOO.out
      · rw [L3.out]; exact SLL.out
      · rw [L4.out]; exact SRR.out
end Go.Proofs.YthboebhghaabnaaGreatDoor

set_option linter.unusedSimpArgs false
set_option linter.unusedVariables false
namespace Go.Proofs.YthboebhghaabnaaGreatDoor
open Go.RowKit Fk Sha
/-! The reference of law 14: Make. -/
set_option maxRecDepth 100000 in
set_option maxHeartbeats 4000000 in
theorem rmake_no0 (key : Int) (s : List Se) (t : Tn) (x : TnA) (A : Option Addr) (c : Nat) (w : World) (f0 : vld key = false) :
    Calls Tryz.prog 8 #[.int .i64 key, .slice A s.length c, .agg (x.cells t).toArray] w fun e w' => e = .returned (.tuple #[.agg #[.slice none 0 0, .slice none 0 0, .slice none 0 0, .slice none 0 0, .slice none 0 0], .int .i64 90]) ∧ Below w.heap.size w w' := by
  have hB := (below_alloc' w (.cells (x.cells t).toArray 27)).alloc (by simp) (.cells #[.slice none 0 0, .slice none 0 0, .slice none 0 0, .slice none 0 0, .slice none 0 0] 32)
  have r0 := (Row.new w 27 (x.cells t)).alloc (.cells #[.slice none 0 0, .slice none 0 0, .slice none 0 0, .slice none 0 0, .slice none 0 0] 32)
  have r1 : Row ((w.alloc (.cells (x.cells t).toArray 27)).alloc (.cells #[.slice none 0 0, .slice none 0 0, .slice none 0 0, .slice none 0 0, .slice none 0 0] 32)) (w.heap.size + 1) 32 [.slice none 0 0, .slice none 0 0, .slice none 0 0, .slice none 0 0, .slice none 0 0] := rowZ (by simp) _ [.slice none 0 0, .slice none 0 0, .slice none 0 0, .slice none 0 0, .slice none 0 0]
  obtain ⟨W, hW⟩ : ∃ W, (w.alloc (.cells (x.cells t).toArray 27)).alloc (.cells #[.slice none 0 0, .slice none 0 0, .slice none 0 0, .slice none 0 0, .slice none 0 0] 32) = W := ⟨_, rfl⟩
  rw [hW] at hB r0 r1
  have q1 := fun w => refvalid_any key w
  rw [f0] at q1
  have Q1 := Lib.hid q1
  obtain ⟨al, cl, ar, cr, arl, crl, arr, crr, at_, ct⟩ := x
  unfold TnA.cells at r0 hW ⊢
  simp only at r0 hW ⊢
  replace hW : (w.alloc (.cells #[.slice al t.l.length cl, .slice ar t.r.length cr, .slice arl t.rl.length crl, .slice arr t.rr.length crr, .slice at_ t.s.length ct] 27)).alloc (.cells #[.slice none 0 0, .slice none 0 0, .slice none 0 0, .slice none 0 0, .slice none 0 0] 32) = W := hW
  have c0 : W.cell? ⟨w.heap.size, 0, none⟩ = some _ := r0.cell 0
  have c1 : W.cell? ⟨w.heap.size, 1, none⟩ = some _ := r0.cell 1
  have c2 : W.cell? ⟨w.heap.size, 2, none⟩ = some _ := r0.cell 2
  have c3 : W.cell? ⟨w.heap.size, 3, none⟩ = some _ := r0.cell 3
  have c4 : W.cell? ⟨w.heap.size, 4, none⟩ = some _ := r0.cell 4
  have hlt := r0.lt
  have hlt1 := r1.lt
  clear q1 f0 r0
  go_enter Tryz.func8, Tryz.ntmps8
  go_upto_region 1 with fail
  try rw [hW]
  clear hW
  go_upto_region 2 with (first
    | (go_at_call 28; (with_reducible refine (Q1.out _).mono ?_); rintro e w1 ⟨rfl, rfl⟩))
  have m0 : W.cell? ⟨w.heap.size + 1, 0, none⟩ = some _ := r1.cell 0
  have m1 : W.cell? ⟨w.heap.size + 1, 1, none⟩ = some _ := r1.cell 1
  have m2 : W.cell? ⟨w.heap.size + 1, 2, none⟩ = some _ := r1.cell 2
  have m3 : W.cell? ⟨w.heap.size + 1, 3, none⟩ = some _ := r1.cell 3
  have m4 : W.cell? ⟨w.heap.size + 1, 4, none⟩ = some _ := r1.cell 4
  have ff := fun i => Row.frozen r1 i
  have MXX := Lib.hid r1
  go_wp2_with fail
  have hw : (((((W.setCell ⟨w.heap.size + 1, 0, none⟩ (.slice none 0 0)).setCell ⟨w.heap.size + 1, 1, none⟩ (.slice none 0 0)).setCell ⟨w.heap.size + 1, 2, none⟩ (.slice none 0 0)).setCell ⟨w.heap.size + 1, 3, none⟩ (.slice none 0 0)).setCell ⟨w.heap.size + 1, 4, none⟩ (.slice none 0 0)) = W := by
    rw [row_self MXX.out (i := 0) rfl, row_self MXX.out (i := 1) rfl, row_self MXX.out (i := 2) rfl, row_self MXX.out (i := 3) rfl, row_self MXX.out (i := 4) rfl]
  rw [hw]
  exact bodyPost_ret (v := .tuple #[.agg #[.slice none 0 0, .slice none 0 0, .slice none 0 0, .slice none 0 0, .slice none 0 0], .int .i64 90]) (by simp [results, Tryz.results8, go_sem, m0, m1, m2, m3, m4]) rfl ⟨rfl, hB⟩
set_option maxRecDepth 100000 in
set_option maxHeartbeats 4000000 in
theorem rmake_no1 (key : Int) (s : List Se) (t : Tn) (x : TnA) (A : Option Addr) (c : Nat) (w : World) (f0 : vld key = true) (f1 : 64 < s.length) :
    Calls Tryz.prog 8 #[.int .i64 key, .slice A s.length c, .agg (x.cells t).toArray] w fun e w' => e = .returned (.tuple #[.agg #[.slice none 0 0, .slice none 0 0, .slice none 0 0, .slice none 0 0, .slice none 0 0], .int .i64 2]) ∧ Below w.heap.size w w' := by
  have hB := (below_alloc' w (.cells (x.cells t).toArray 27)).alloc (by simp) (.cells #[.slice none 0 0, .slice none 0 0, .slice none 0 0, .slice none 0 0, .slice none 0 0] 32)
  have r0 := (Row.new w 27 (x.cells t)).alloc (.cells #[.slice none 0 0, .slice none 0 0, .slice none 0 0, .slice none 0 0, .slice none 0 0] 32)
  have r1 : Row ((w.alloc (.cells (x.cells t).toArray 27)).alloc (.cells #[.slice none 0 0, .slice none 0 0, .slice none 0 0, .slice none 0 0, .slice none 0 0] 32)) (w.heap.size + 1) 32 [.slice none 0 0, .slice none 0 0, .slice none 0 0, .slice none 0 0, .slice none 0 0] := rowZ (by simp) _ [.slice none 0 0, .slice none 0 0, .slice none 0 0, .slice none 0 0, .slice none 0 0]
  obtain ⟨W, hW⟩ : ∃ W, (w.alloc (.cells (x.cells t).toArray 27)).alloc (.cells #[.slice none 0 0, .slice none 0 0, .slice none 0 0, .slice none 0 0, .slice none 0 0] 32) = W := ⟨_, rfl⟩
  rw [hW] at hB r0 r1
  have q1 := fun w => refvalid_any key w
  rw [f0] at q1
  have Q1 := Lib.hid q1
  have s1 : ((64 : Int) < s.length) := by omega
  obtain ⟨al, cl, ar, cr, arl, crl, arr, crr, at_, ct⟩ := x
  unfold TnA.cells at r0 hW ⊢
  simp only at r0 hW ⊢
  replace hW : (w.alloc (.cells #[.slice al t.l.length cl, .slice ar t.r.length cr, .slice arl t.rl.length crl, .slice arr t.rr.length crr, .slice at_ t.s.length ct] 27)).alloc (.cells #[.slice none 0 0, .slice none 0 0, .slice none 0 0, .slice none 0 0, .slice none 0 0] 32) = W := hW
  have c0 : W.cell? ⟨w.heap.size, 0, none⟩ = some _ := r0.cell 0
  have c1 : W.cell? ⟨w.heap.size, 1, none⟩ = some _ := r0.cell 1
  have c2 : W.cell? ⟨w.heap.size, 2, none⟩ = some _ := r0.cell 2
  have c3 : W.cell? ⟨w.heap.size, 3, none⟩ = some _ := r0.cell 3
  have c4 : W.cell? ⟨w.heap.size, 4, none⟩ = some _ := r0.cell 4
  have hlt := r0.lt
  have hlt1 := r1.lt
  clear q1 f0 f1 r0
  go_enter Tryz.func8, Tryz.ntmps8
  go_upto_region 1 with fail
  try rw [hW]
  clear hW
  go_upto_region 4 with (first
    | (go_at_call 28; (with_reducible refine (Q1.out _).mono ?_); rintro e w1 ⟨rfl, rfl⟩))
  have m0 : W.cell? ⟨w.heap.size + 1, 0, none⟩ = some _ := r1.cell 0
  have m1 : W.cell? ⟨w.heap.size + 1, 1, none⟩ = some _ := r1.cell 1
  have m2 : W.cell? ⟨w.heap.size + 1, 2, none⟩ = some _ := r1.cell 2
  have m3 : W.cell? ⟨w.heap.size + 1, 3, none⟩ = some _ := r1.cell 3
  have m4 : W.cell? ⟨w.heap.size + 1, 4, none⟩ = some _ := r1.cell 4
  have ff := fun i => Row.frozen r1 i
  have MXX := Lib.hid r1
  go_wp2_with fail
  have hw : (((((W.setCell ⟨w.heap.size + 1, 0, none⟩ (.slice none 0 0)).setCell ⟨w.heap.size + 1, 1, none⟩ (.slice none 0 0)).setCell ⟨w.heap.size + 1, 2, none⟩ (.slice none 0 0)).setCell ⟨w.heap.size + 1, 3, none⟩ (.slice none 0 0)).setCell ⟨w.heap.size + 1, 4, none⟩ (.slice none 0 0)) = W := by
    rw [row_self MXX.out (i := 0) rfl, row_self MXX.out (i := 1) rfl, row_self MXX.out (i := 2) rfl, row_self MXX.out (i := 3) rfl, row_self MXX.out (i := 4) rfl]
  rw [hw]
  exact bodyPost_ret (v := .tuple #[.agg #[.slice none 0 0, .slice none 0 0, .slice none 0 0, .slice none 0 0, .slice none 0 0], .int .i64 2]) (by simp [results, Tryz.results8, go_sem, m0, m1, m2, m3, m4]) rfl ⟨rfl, hB⟩
set_option maxRecDepth 100000 in
set_option maxHeartbeats 4000000 in
theorem rmake_no2 (key : Int) (s : List Se) (t : Tn) (x : TnA) (A : Option Addr) (c : Nat) (w : World) (f0 : vld key = true) (f1 : s.length ≤ 64) (hs : SlS w w.heap.size (.slice A s.length c) s) (f2 : s.all okS = false) :
    Calls Tryz.prog 8 #[.int .i64 key, .slice A s.length c, .agg (x.cells t).toArray] w fun e w' => e = .returned (.tuple #[.agg #[.slice none 0 0, .slice none 0 0, .slice none 0 0, .slice none 0 0, .slice none 0 0], .int .i64 100]) ∧ Below w.heap.size w w' := by
  have hB := (below_alloc' w (.cells (x.cells t).toArray 27)).alloc (by simp) (.cells #[.slice none 0 0, .slice none 0 0, .slice none 0 0, .slice none 0 0, .slice none 0 0] 32)
  have r0 := (Row.new w 27 (x.cells t)).alloc (.cells #[.slice none 0 0, .slice none 0 0, .slice none 0 0, .slice none 0 0, .slice none 0 0] 32)
  have r1 : Row ((w.alloc (.cells (x.cells t).toArray 27)).alloc (.cells #[.slice none 0 0, .slice none 0 0, .slice none 0 0, .slice none 0 0, .slice none 0 0] 32)) (w.heap.size + 1) 32 [.slice none 0 0, .slice none 0 0, .slice none 0 0, .slice none 0 0, .slice none 0 0] := rowZ (by simp) _ [.slice none 0 0, .slice none 0 0, .slice none 0 0, .slice none 0 0, .slice none 0 0]
  obtain ⟨W, hW⟩ : ∃ W, (w.alloc (.cells (x.cells t).toArray 27)).alloc (.cells #[.slice none 0 0, .slice none 0 0, .slice none 0 0, .slice none 0 0, .slice none 0 0] 32) = W := ⟨_, rfl⟩
  rw [hW] at hB r0 r1
  have q1 := fun w => refvalid_any key w
  rw [f0] at q1
  have Q1 := Lib.hid q1
  have s1 : ¬ ((64 : Int) < s.length) := by omega
  have q2 := fun (w' : World) (hb' : Below w.heap.size w w') => rformed10_any s (.slice A s.length c) w' ((hs.below hb').mono hb'.size)
  rw [f2] at q2
  have Q2 := Lib.hid q2
  obtain ⟨al, cl, ar, cr, arl, crl, arr, crr, at_, ct⟩ := x
  unfold TnA.cells at r0 hW ⊢
  simp only at r0 hW ⊢
  replace hW : (w.alloc (.cells #[.slice al t.l.length cl, .slice ar t.r.length cr, .slice arl t.rl.length crl, .slice arr t.rr.length crr, .slice at_ t.s.length ct] 27)).alloc (.cells #[.slice none 0 0, .slice none 0 0, .slice none 0 0, .slice none 0 0, .slice none 0 0] 32) = W := hW
  have c0 : W.cell? ⟨w.heap.size, 0, none⟩ = some _ := r0.cell 0
  have c1 : W.cell? ⟨w.heap.size, 1, none⟩ = some _ := r0.cell 1
  have c2 : W.cell? ⟨w.heap.size, 2, none⟩ = some _ := r0.cell 2
  have c3 : W.cell? ⟨w.heap.size, 3, none⟩ = some _ := r0.cell 3
  have c4 : W.cell? ⟨w.heap.size, 4, none⟩ = some _ := r0.cell 4
  have hlt := r0.lt
  have hlt1 := r1.lt
  clear q1 f0 q2 f2 hs f1 r0
  go_enter Tryz.func8, Tryz.ntmps8
  go_upto_region 1 with fail
  try rw [hW]
  clear hW
  go_upto_region 6 with (first
    | (go_at_call 28; (with_reducible refine (Q1.out _).mono ?_); rintro e w1 ⟨rfl, rfl⟩)
    | (go_at_call 29; (with_reducible refine (Q2.out _ hB).mono ?_); rintro e w2 ⟨rfl, hb2⟩; have hB2 := hB.trans (hb2.mono hB.size); have z0 := r1.below hb2 hlt1; have d0 : w2.cell? ⟨w.heap.size, 0, none⟩ = _ := (hb2.cell (p := ⟨w.heap.size, 0, none⟩) hlt).trans c0; have d1 : w2.cell? ⟨w.heap.size, 1, none⟩ = _ := (hb2.cell (p := ⟨w.heap.size, 1, none⟩) hlt).trans c1; have d2 : w2.cell? ⟨w.heap.size, 2, none⟩ = _ := (hb2.cell (p := ⟨w.heap.size, 2, none⟩) hlt).trans c2; have d3 : w2.cell? ⟨w.heap.size, 3, none⟩ = _ := (hb2.cell (p := ⟨w.heap.size, 3, none⟩) hlt).trans c3; have d4 : w2.cell? ⟨w.heap.size, 4, none⟩ = _ := (hb2.cell (p := ⟨w.heap.size, 4, none⟩) hlt).trans c4))
  have m0 : w2.cell? ⟨w.heap.size + 1, 0, none⟩ = some _ := z0.cell 0
  have m1 : w2.cell? ⟨w.heap.size + 1, 1, none⟩ = some _ := z0.cell 1
  have m2 : w2.cell? ⟨w.heap.size + 1, 2, none⟩ = some _ := z0.cell 2
  have m3 : w2.cell? ⟨w.heap.size + 1, 3, none⟩ = some _ := z0.cell 3
  have m4 : w2.cell? ⟨w.heap.size + 1, 4, none⟩ = some _ := z0.cell 4
  have ff := fun i => Row.frozen z0 i
  have MXX := Lib.hid z0
  go_wp2_with fail
  have hw : (((((w2.setCell ⟨w.heap.size + 1, 0, none⟩ (.slice none 0 0)).setCell ⟨w.heap.size + 1, 1, none⟩ (.slice none 0 0)).setCell ⟨w.heap.size + 1, 2, none⟩ (.slice none 0 0)).setCell ⟨w.heap.size + 1, 3, none⟩ (.slice none 0 0)).setCell ⟨w.heap.size + 1, 4, none⟩ (.slice none 0 0)) = w2 := by
    rw [row_self MXX.out (i := 0) rfl, row_self MXX.out (i := 1) rfl, row_self MXX.out (i := 2) rfl, row_self MXX.out (i := 3) rfl, row_self MXX.out (i := 4) rfl]
  rw [hw]
  exact bodyPost_ret (v := .tuple #[.agg #[.slice none 0 0, .slice none 0 0, .slice none 0 0, .slice none 0 0, .slice none 0 0], .int .i64 100]) (by simp [results, Tryz.results8, go_sem, m0, m1, m2, m3, m4]) rfl ⟨rfl, hB2⟩
set_option maxRecDepth 100000 in
set_option maxHeartbeats 4000000 in
theorem rmake_no3 (key : Int) (s : List Se) (t : Tn) (x : TnA) (A : Option Addr) (c : Nat) (w : World) (f0 : vld key = true) (f1 : s.length ≤ 64) (hs : SlS w w.heap.size (.slice A s.length c) s) (f2 : s.all okS = true) (h : TnS w w.heap.size x t) (f3 : rightB t s.length = false) :
    Calls Tryz.prog 8 #[.int .i64 key, .slice A s.length c, .agg (x.cells t).toArray] w fun e w' => e = .returned (.tuple #[.agg #[.slice none 0 0, .slice none 0 0, .slice none 0 0, .slice none 0 0, .slice none 0 0], .int .i64 140]) ∧ Below w.heap.size w w' := by
  have hB := (below_alloc' w (.cells (x.cells t).toArray 27)).alloc (by simp) (.cells #[.slice none 0 0, .slice none 0 0, .slice none 0 0, .slice none 0 0, .slice none 0 0] 32)
  have r0 := (Row.new w 27 (x.cells t)).alloc (.cells #[.slice none 0 0, .slice none 0 0, .slice none 0 0, .slice none 0 0, .slice none 0 0] 32)
  have r1 : Row ((w.alloc (.cells (x.cells t).toArray 27)).alloc (.cells #[.slice none 0 0, .slice none 0 0, .slice none 0 0, .slice none 0 0, .slice none 0 0] 32)) (w.heap.size + 1) 32 [.slice none 0 0, .slice none 0 0, .slice none 0 0, .slice none 0 0, .slice none 0 0] := rowZ (by simp) _ [.slice none 0 0, .slice none 0 0, .slice none 0 0, .slice none 0 0, .slice none 0 0]
  obtain ⟨W, hW⟩ : ∃ W, (w.alloc (.cells (x.cells t).toArray 27)).alloc (.cells #[.slice none 0 0, .slice none 0 0, .slice none 0 0, .slice none 0 0, .slice none 0 0] 32) = W := ⟨_, rfl⟩
  rw [hW] at hB r0 r1
  have q1 := fun w => refvalid_any key w
  rw [f0] at q1
  have Q1 := Lib.hid q1
  have s1 : ¬ ((64 : Int) < s.length) := by omega
  have q2 := fun (w' : World) (hb' : Below w.heap.size w w') => rformed10_any s (.slice A s.length c) w' ((hs.below hb').mono hb'.size)
  rw [f2] at q2
  have Q2 := Lib.hid q2
  have q3 := fun (w' : World) (hb' : Below w.heap.size w w') => rright_any t x s.length w' ((h.below hb').mono hb'.size)
  rw [f3] at q3
  obtain ⟨al, cl, ar, cr, arl, crl, arr, crr, at_, ct⟩ := x
  unfold TnA.cells at r0 hW q3 ⊢
  simp only at r0 hW q3 ⊢
  have Q3 := Lib.hid q3
  replace hW : (w.alloc (.cells #[.slice al t.l.length cl, .slice ar t.r.length cr, .slice arl t.rl.length crl, .slice arr t.rr.length crr, .slice at_ t.s.length ct] 27)).alloc (.cells #[.slice none 0 0, .slice none 0 0, .slice none 0 0, .slice none 0 0, .slice none 0 0] 32) = W := hW
  have c0 : W.cell? ⟨w.heap.size, 0, none⟩ = some _ := r0.cell 0
  have c1 : W.cell? ⟨w.heap.size, 1, none⟩ = some _ := r0.cell 1
  have c2 : W.cell? ⟨w.heap.size, 2, none⟩ = some _ := r0.cell 2
  have c3 : W.cell? ⟨w.heap.size, 3, none⟩ = some _ := r0.cell 3
  have c4 : W.cell? ⟨w.heap.size, 4, none⟩ = some _ := r0.cell 4
  have hlt := r0.lt
  have hlt1 := r1.lt
  clear q1 f0 q2 f2 hs f1 r0 q3 h
  go_enter Tryz.func8, Tryz.ntmps8
  go_upto_region 1 with fail
  try rw [hW]
  clear hW
  go_upto_region 8 with (first
    | (go_at_call 28; (with_reducible refine (Q1.out _).mono ?_); rintro e w1 ⟨rfl, rfl⟩)
    | (go_at_call 29; (with_reducible refine (Q2.out _ hB).mono ?_); rintro e w2 ⟨rfl, hb2⟩; have hB2 := hB.trans (hb2.mono hB.size); have z0 := r1.below hb2 hlt1; have d0 : w2.cell? ⟨w.heap.size, 0, none⟩ = _ := (hb2.cell (p := ⟨w.heap.size, 0, none⟩) hlt).trans c0; have d1 : w2.cell? ⟨w.heap.size, 1, none⟩ = _ := (hb2.cell (p := ⟨w.heap.size, 1, none⟩) hlt).trans c1; have d2 : w2.cell? ⟨w.heap.size, 2, none⟩ = _ := (hb2.cell (p := ⟨w.heap.size, 2, none⟩) hlt).trans c2; have d3 : w2.cell? ⟨w.heap.size, 3, none⟩ = _ := (hb2.cell (p := ⟨w.heap.size, 3, none⟩) hlt).trans c3; have d4 : w2.cell? ⟨w.heap.size, 4, none⟩ = _ := (hb2.cell (p := ⟨w.heap.size, 4, none⟩) hlt).trans c4)
    | (go_at_call 30; (with_reducible refine (Q3.out _ hB2).mono ?_); rintro e w3 ⟨rfl, hb3⟩; have hB3 := hB2.trans (hb3.mono hB2.size); have z1 := z0.below hb3 z0.lt))
  have m0 : w3.cell? ⟨w.heap.size + 1, 0, none⟩ = some _ := z1.cell 0
  have m1 : w3.cell? ⟨w.heap.size + 1, 1, none⟩ = some _ := z1.cell 1
  have m2 : w3.cell? ⟨w.heap.size + 1, 2, none⟩ = some _ := z1.cell 2
  have m3 : w3.cell? ⟨w.heap.size + 1, 3, none⟩ = some _ := z1.cell 3
  have m4 : w3.cell? ⟨w.heap.size + 1, 4, none⟩ = some _ := z1.cell 4
  have ff := fun i => Row.frozen z1 i
  have MXX := Lib.hid z1
  go_wp2_with fail
  have hw : (((((w3.setCell ⟨w.heap.size + 1, 0, none⟩ (.slice none 0 0)).setCell ⟨w.heap.size + 1, 1, none⟩ (.slice none 0 0)).setCell ⟨w.heap.size + 1, 2, none⟩ (.slice none 0 0)).setCell ⟨w.heap.size + 1, 3, none⟩ (.slice none 0 0)).setCell ⟨w.heap.size + 1, 4, none⟩ (.slice none 0 0)) = w3 := by
    rw [row_self MXX.out (i := 0) rfl, row_self MXX.out (i := 1) rfl, row_self MXX.out (i := 2) rfl, row_self MXX.out (i := 3) rfl, row_self MXX.out (i := 4) rfl]
  rw [hw]
  exact bodyPost_ret (v := .tuple #[.agg #[.slice none 0 0, .slice none 0 0, .slice none 0 0, .slice none 0 0, .slice none 0 0], .int .i64 140]) (by simp [results, Tryz.results8, go_sem, m0, m1, m2, m3, m4]) rfl ⟨rfl, hB3⟩
theorem rmake_any (key : Int) (s : List Se) (t : Tn) (x : TnA) (v : Value) (w : World) (h : TnS w w.heap.size x t) (hs : SlS w w.heap.size v s) (hok : OkTn t) :
    Calls Tryz.prog 8 #[.int .i64 key, v, .agg (x.cells t).toArray] w fun e w' => ∃ y : MxA, e = .returned (.tuple #[.agg (y.cells (mixC key s t)).toArray, .int .i64 (mixE key s t)]) ∧ Below w.heap.size w w' ∧ MxS w' w'.heap.size y (mixC key s t) := by
  obtain ⟨_, A, c, rfl, _⟩ := id hs
  have hE : mixE key s t = if vld key then (if s.length ≤ 64 then (if s.all okS then (if rightB t s.length then 0 else 140) else 100) else 2) else 90 := rfl
  have hC : mixC key s t = if mixE key s t = 0 then mixTo key s t s.length else zMx := rfl
  have fin : ∀ n : Int, mixE key s t = n → n ≠ 0 → (Calls Tryz.prog 8 #[.int .i64 key, .slice A s.length c, .agg (x.cells t).toArray] w fun e w' => e = .returned (.tuple #[.agg #[.slice none 0 0, .slice none 0 0, .slice none 0 0, .slice none 0 0, .slice none 0 0], .int .i64 n]) ∧ Below w.heap.size w w') →
      Calls Tryz.prog 8 #[.int .i64 key, .slice A s.length c, .agg (x.cells t).toArray] w fun e w' => ∃ y : MxA, e = .returned (.tuple #[.agg (y.cells (mixC key s t)).toArray, .int .i64 (mixE key s t)]) ∧ Below w.heap.size w w' ∧ MxS w' w'.heap.size y (mixC key s t) := by
    intro n hn h0 hc
    rw [hC, hn, if_neg h0]
    refine hc.mono ?_
    rintro e w' ⟨rfl, hb⟩
    exact ⟨nilMxA, rfl, hb, nil_mx _ _⟩
  cases f0 : vld key with
  | false => rw [f0, if_neg (by decide)] at hE; exact fin _ hE (by decide) (rmake_no0 key s t x A c w f0)
  | true =>
    rw [f0, if_pos rfl] at hE
    by_cases f1 : s.length ≤ 64
    · rw [if_pos f1] at hE
      cases f2 : s.all okS with
      | false => rw [f2, if_neg (by decide)] at hE; exact fin _ hE (by decide) (rmake_no2 key s t x A c w f0 f1 hs f2)
      | true =>
        rw [f2, if_pos rfl] at hE
        cases f3 : rightB t s.length with
        | false => rw [f3, if_neg (by decide)] at hE; exact fin _ hE (by decide) (rmake_no3 key s t x A c w f0 f1 hs f2 h f3)
        | true =>
          rw [f3, if_pos rfl] at hE
          rw [hC, hE, if_pos rfl]
          exact rmake_main key s t x A c w h hs hok hE
    · rw [if_neg f1] at hE
      exact fin _ hE (by decide) (rmake_no1 key s t x A c w f0 (by omega))
end Go.Proofs.YthboebhghaabnaaGreatDoor
