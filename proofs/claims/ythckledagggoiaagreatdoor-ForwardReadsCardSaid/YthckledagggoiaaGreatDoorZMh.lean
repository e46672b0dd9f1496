import Derived.Test.YthckledagggoiaaGreatDoorZRg5
import Derived.Sort.LoopGhostIn
set_option linter.unusedSimpArgs false
set_option linter.unusedVariables false
namespace Go.Proofs.YthckledagggoiaaGreatDoor
open Go.RowKit Go.MapKept Fk
/-! The desk of homes: a map of maps of entries. -/
def upd2 (D : Int → Int → Option En) (k a : Int) (x : En) : Int → Int → Option En := fun k' a' => if k' = k ∧ a' = a then some x else D k' a'
def deskL (X : List En) : Int → Int → Option En := X.foldl (fun D y => upd2 D y.kind y.a y) (fun _ _ => none)
theorem deskL_snoc (X : List En) (y : En) : deskL (X ++ [y]) = upd2 (deskL X) y.kind y.a y := by unfold deskL; rw [List.foldl_append]; rfl
def updN (h : Int → Option Nat) (k : Int) (b : Nat) : Int → Option Nat := fun x => if x = k then some b else h x
noncomputable abbrev outM (h : Int → Option Nat) : Int → Option Value := fun k => (h k).map fun b => Value.map (some b)
noncomputable abbrev inM (D : Int → Int → Option En) (k : Int) : Int → Option Value := fun a => (D k a).map En.val
structure DeskH (base : Nat) (w : World) (bd : Nat) (h : Int → Option Nat) (D : Int → Int → Option En) : Prop where
  out : MapK (Value.int .i64) w bd (outM h)
  inn : ∀ k b, h k = some b → MapK (Value.int .i64) w b (inM D k) ∧ b ≠ bd ∧ base ≤ b
  no : ∀ k, h k = none → ∀ a, D k a = none
  one : ∀ k k' b, h k = some b → h k' = some b → k = k'
  low : base ≤ bd
def DeskK (base : Nat) (w : World) (bd : Nat) (D : Int → Int → Option En) : Prop := ∃ h, DeskH base w bd h D
theorem DeskH.below {base : Nat} {w w' : World} {bd : Nat} {h : Int → Option Nat} {D : Int → Int → Option En} (H : DeskH base w bd h D) (hb : Below w.heap.size w w') : DeskH base w' bd h D :=
  ⟨H.out.below hb H.out.lt, fun k b hk => ⟨(H.inn k b hk).1.below hb (H.inn k b hk).1.lt, (H.inn k b hk).2⟩, H.no, H.one, H.low⟩
theorem DeskK.below {base : Nat} {w w' : World} {bd : Nat} {D : Int → Int → Option En} (H : DeskK base w bd D) (hb : Below w.heap.size w w') : DeskK base w' bd D := by
  obtain ⟨h, H⟩ := H; exact ⟨h, H.below hb⟩
theorem DeskK.lt {base : Nat} {w : World} {bd : Nat} {D : Int → Int → Option En} (H : DeskK base w bd D) : bd < w.heap.size := by
  obtain ⟨h, H⟩ := H; exact H.out.lt
theorem DeskK.mono {base base' : Nat} {w : World} {bd : Nat} {D : Int → Int → Option En} (H : DeskK base w bd D) (hb : base' ≤ base) : DeskK base' w bd D := by
  obtain ⟨h, H⟩ := H
  exact ⟨h, H.out, fun k b hk => ⟨(H.inn k b hk).1, (H.inn k b hk).2.1, Nat.le_trans hb (H.inn k b hk).2.2⟩, H.no, H.one, Nat.le_trans hb H.low⟩
theorem DeskK.made (base : Nat) (w : World) (hb : base ≤ w.heap.size) : DeskK base (w.alloc (.map #[] 0)) w.heap.size (fun _ _ => none) :=
  ⟨fun _ => none, MapK.made _ w, fun k b h => (by cases h), fun _ _ _ => rfl, fun _ _ _ h => (by cases h), hb⟩
theorem updF_out (h : Int → Option Nat) (k : Int) (b : Nat) : updF (outM h) k (.map (some b)) = outM (updN h k b) := by
  funext x
  unfold outM updN
  by_cases hx : x = k
  · subst hx; rw [updF_same, if_pos rfl]; rfl
  · rw [updF_ne _ _ hx, if_neg hx]
theorem updF_in (D : Int → Int → Option En) (k a : Int) (x : En) : updF (inM D k) a x.val = inM (upd2 D k a x) k := by
  funext y
  unfold inM upd2
  by_cases hx : y = a
  · subst hx; rw [updF_same, if_pos ⟨rfl, rfl⟩]; rfl
  · rw [updF_ne _ _ hx, if_neg (fun h => hx h.2)]
theorem inM_ne (D : Int → Int → Option En) {k k' a : Int} (x : En) (h : k' ≠ k) : inM (upd2 D k a x) k' = inM D k' := by
  funext y
  unfold inM upd2
  rw [if_neg (fun e => h e.1)]
theorem DeskH.new {base : Nat} {w : World} {bd : Nat} {h : Int → Option Nat} {D : Int → Int → Option En} (H : DeskH base w bd h D) {k : Int} (hn : h k = none) (hbase : base ≤ w.heap.size) :
    ∃ w2, (Instr.mapUpdate 104 (.map (some bd)) (.int .i64 k) (.map (some w.heap.size))).run Tryz.prog (w.alloc (.map #[] 0)) = .ok () w2 ∧ DeskH base w2 bd (updN h k w.heap.size) D ∧ Below base w w2 ∧ ∀ r, r < w.heap.size → r ≠ bd → w2.heap[r]? = w.heap[r]? := by
  obtain ⟨w2, hr, hm, hg⟩ := (H.out.alloc (.map #[] 0)).put law_int Tryz.underlying104 k (.map (some w.heap.size))
  have hlt := H.out.lt
  have hz := hg.size
  rw [World.size_alloc] at hz
  refine ⟨w2, hr, ⟨by rw [← updF_out]; exact hm, ?_, ?_, ?_, H.low⟩, ?_⟩
  · intro k' b hb
    unfold updN at hb
    by_cases hk : k' = k
    · rw [if_pos hk] at hb
      cases hb
      refine ⟨?_, by omega, hbase⟩
      have e : inM D k' = fun _ => none := by funext a; unfold inM; rw [hk, H.no k hn a]; rfl
      rw [e]
      exact (MapK.made _ w).keep (hg.block _ (by simp) (fun e => by have := Option.some.inj e; omega))
    · rw [if_neg hk] at hb
      obtain ⟨i1, i2, i3⟩ := H.inn k' b hb
      exact ⟨(i1.alloc _).keep (hg.block _ (by have := i1.lt; simp; omega) (fun e => i2 (Option.some.inj e))), i2, i3⟩
  · intro k' hk'
    unfold updN at hk'
    by_cases hk : k' = k
    · rw [if_pos hk] at hk'; cases hk'
    · rw [if_neg hk] at hk'; exact H.no k' hk'
  · intro k1 k2 b h1 h2
    unfold updN at h1 h2
    by_cases e1 : k1 = k
    · by_cases e2 : k2 = k
      · rw [e1, e2]
      · rw [if_pos e1] at h1; rw [if_neg e2] at h2
        cases h1
        have := (H.inn k2 _ h2).1.lt
        omega
    · by_cases e2 : k2 = k
      · rw [if_neg e1] at h1; rw [if_pos e2] at h2
        cases h2
        have := (H.inn k1 _ h1).1.lt
        omega
      · rw [if_neg e1] at h1; rw [if_neg e2] at h2
        exact H.one k1 k2 b h1 h2
  · exact ⟨((Below.refl base w).alloc hbase _).grown hg (by simp; omega) (fun r e => by have := Option.some.inj e; have := H.low; omega), fun r h1 h2 => (hg.block r (by simp; omega) (fun e => h2 (Option.some.inj e))).trans (Below.heap_alloc _ _ r h1)⟩
theorem DeskH.put {base : Nat} {w : World} {bd : Nat} {h : Int → Option Nat} {D : Int → Int → Option En} (H : DeskH base w bd h D) {k : Int} {b : Nat} (hs : h k = some b) (hbase : base ≤ w.heap.size) (a : Int) (x : En) :
    ∃ w2, (Instr.mapUpdate 147 (.map (some b)) (.int .i64 a) x.val).run Tryz.prog w = .ok () w2 ∧ DeskH base w2 bd h (upd2 D k a x) ∧ Below base w w2 := by
  obtain ⟨i1, i2, i3⟩ := H.inn k b hs
  obtain ⟨w2, hr, hm, hg⟩ := i1.put law_int Tryz.underlying147 a x.val
  refine ⟨w2, hr, ⟨H.out.keep (hg.block _ H.out.lt (fun e => i2 (Option.some.inj e).symm)), ?_, ?_, H.one, H.low⟩, (Below.refl base w).grown hg hbase (fun r e => by have := Option.some.inj e; omega)⟩
  · intro k' b' hb
    obtain ⟨j1, j2, j3⟩ := H.inn k' b' hb
    by_cases hk : k' = k
    · subst hk
      rw [hs] at hb
      cases hb
      exact ⟨by rw [← updF_in]; exact hm, j2, j3⟩
    · rw [inM_ne D x hk]
      exact ⟨j1.keep (hg.block _ j1.lt (fun e => hk (H.one k' k b' hb (by rw [hs, Option.some.inj e])))), j2, j3⟩
  · intro k' hk' a'
    have hne : k' ≠ k := fun e => by rw [e, hs] at hk'; cases hk'
    unfold upd2
    rw [if_neg (fun e => hne e.1)]
    exact H.no k' hk' a'
theorem eq_mapE (q : Option Nat) (w : World) : (binOp .eql 147 (.map q) (.map none)).run Tryz.prog w = .ok (.bool q.isNone) w := by
  cases q <;> kernel_rfl
theorem zero_mapE (w : World) : (zeroValue 147).run Tryz.prog w = .ok (.map none) w := by kernel_rfl
theorem zero_entry (w : World) : (zeroValue 49).run Tryz.prog w = .ok zeroE.val w := by kernel_rfl
theorem DeskH.see {base : Nat} {w : World} {bd : Nat} {h : Int → Option Nat} {D : Int → Int → Option En} (H : DeskH base w bd h D) (k : Int) :
    (Instr.lookup 104 (.map (some bd)) (.int .i64 k) false).run Tryz.prog w = .ok (.map (h k)) w := by
  have := H.out.look law_int Tryz.underlying104 (zero_mapE w) k false
  rw [if_neg (by decide)] at this
  rw [this]
  unfold outM
  cases h k <;> rfl
theorem look_nil (w : World) (a : Int) (c : Bool) : (Instr.lookup 147 (.map none) (.int .i64 a) c).run Tryz.prog w = .ok (if c then .tuple #[zeroE.val, .bool false] else zeroE.val) w := by
  rcases law_int.find a w [] (by simp) with ⟨_, hf⟩ | ⟨j, e, hj, _⟩
  · simp [Instr.lookup, run_underlying Tryz.underlying147, zero_entry, law_int.check, hf, Result.andThen]
    rfl
  · simp at hj
/-- 'd[k][a]', either way. -/
theorem DeskK.look {base : Nat} {w : World} {bd : Nat} {D : Int → Int → Option En} (H : DeskK base w bd D) (k : Int) :
    ∃ mv, (Instr.lookup 104 (.map (some bd)) (.int .i64 k) false).run Tryz.prog w = .ok (.map mv) w ∧
      ∀ a c, (Instr.lookup 147 (.map mv) (.int .i64 a) c).run Tryz.prog w = .ok (if c then .tuple #[((D k a).getD zeroE).val, .bool (D k a).isSome] else ((D k a).getD zeroE).val) w := by
  obtain ⟨h, H⟩ := H
  refine ⟨h k, H.see k, fun a c => ?_⟩
  cases hk : h k with
  | none => rw [look_nil, H.no k hk a]; rfl
  | some b =>
    rw [(H.inn k b hk).1.look law_int Tryz.underlying147 (zero_entry w) a c]
    unfold inM
    cases D k a <;> rfl
end Go.Proofs.YthckledagggoiaaGreatDoor

set_option linter.unusedSimpArgs false
set_option linter.unusedVariables false
namespace Go.Proofs.YthckledagggoiaaGreatDoor
open Go.RowKit Go.MapKept Fk
/-! homes.open -/
def openE (l : List En) (person day time : Int) : Int := if stE l day time = 0 then (if idB person then 0 else 1) else stE l day time
theorem stE_len {l : List En} {day time : Int} (h : stE l day time = 0) : l.length ≤ 1024 := by
  unfold stE chkE at h
  by_cases h1 : 1024 < l.length
  · rw [if_pos h1] at h; simp at h
  · omega
theorem standX_len (l : List En) (day time : Int) : (standX l day time).length ≤ 1024 := by
  unfold standX
  split
  · rename_i h
    have := stE_len h
    unfold standL cntL
    exact Nat.le_trans (List.length_filter_le _ _) (Nat.le_trans (List.length_filter_le _ _) this)
  · simp
theorem takeSn {l : List En} {k : Nat} (h : k < l.length) : deskL (l.take (k + 1)) = upd2 (deskL (l.take k)) (l.getD k default).kind (l.getD k default).a (l.getD k default) := by
  rw [takeD h, deskL_snoc]
set_option maxRecDepth 100000 in
set_option maxHeartbeats 4000000 in
theorem open_good (l : List En) (v : Value) (person day time : Int) (w : World) (h : SlE w w.heap.size v l) (hs : stE l day time = 0) (hp : idB person = true) :
    Calls Tryz.prog 52 #[v, .int .i64 person, .int .i64 day, .int .i64 time] w fun e w' => (∃ bd, e = .returned (.tuple #[.map (some bd), .int .i64 0]) ∧ DeskK w.heap.size w' bd (deskL (standX l day time))) ∧ Below w.heap.size w w' := by
  have hst := stand_any l v day time w h
  rw [hs] at hst
  have HST := Lib.hid hst
  have hlen := standX_len l day time
  obtain ⟨X, hX⟩ : ∃ X, standX l day time = X := ⟨_, rfl⟩
  rw [hX] at HST hlen
  rw [hX]
  clear hst hs hX h
  unfold idB at hp
  simp only [Bool.and_eq_true, decide_eq_true_eq] at hp
  obtain ⟨p1, p2⟩ := hp
  have f1 : decide (person < 0) = false := decide_eq_false (by omega)
  have f2 : decide (1048576 < person) = false := decide_eq_false (by omega)
  have hmm := @run_makeMap Tryz.prog
  have he0 := eq_mapE none
  have he1 := fun q => eq_mapE (some q)
  rw [show (none : Option Nat).isNone = true from rfl] at he0
  simp only [Option.isNone_some] at he1
  go_enter Tryz.func52, Tryz.ntmps52
  go_wp2_with (go_at_call 76; (with_reducible refine HST.out.mono ?_); rintro e w1 ⟨⟨xv, rfl, hx⟩, hb1⟩; have HX := Lib.hid hx; obtain ⟨hl2, A2, c2, rfl, _⟩ := hx)
  have hz1 := hb1.size
  have HB1 := Lib.hid hb1
  clear hb1 f1 f2 p1 p2
  go_loopg [32] X.length (fun g iv wr => Below w1.heap.size w1 wr ∧ ∃ (k : Nat), iv = .int .i64 k ∧ k + g = X.length ∧ DeskK w1.heap.size wr w1.heap.size (deskL (X.take k)))
  case atStart => exact ⟨(Below.refl _ _).alloc (Nat.le_refl _) _, 0, rfl, by omega, DeskK.made _ w1 (Nat.le_refl _)⟩
  case round =>
    obtain ⟨hBr, k, rfl, hk, hh, HD⟩ := hrel
    by_cases hlt : k < X.length
    · obtain ⟨b, off, rfl, hb, d0, d1, d2, d3, d4, d5, d6, d7⟩ := entry_cells (HX.out.below hBr) hlt
      have htk := takeSn hlt
      obtain ⟨x, hx⟩ : ∃ x, X.getD k default = x := ⟨_, rfl⟩
      rw [hx] at d0 d1 d2 d3 d4 d5 d6 d7 htk
      have HT := Lib.hid htk
      have s1 : (0 : Int) ≤ k := by omega
      have s2 : (k : Int) < X.length := by omega
      have hzb : b < wr.heap.size := by have := hBr.size; omega
      have hzr := hBr.size
      have hBa := hBr.alloc hBr.size (.cells #[.int .i64 x.no, .int .i64 x.kind, .int .i64 x.a, .int .i64 x.b, .int .i64 x.from_, .int .i64 x.until_, .int .i64 x.known, .int .i64 x.gone] 49)
      have HD1 := HD.below ((Below.refl wr.heap.size wr).alloc (Nat.le_refl _) (.cells #[.int .i64 x.no, .int .i64 x.kind, .int .i64 x.a, .int .i64 x.b, .int .i64 x.from_, .int .i64 x.until_, .int .i64 x.known, .int .i64 x.gone] 49))
      have r0 := Row.new wr 49 [.int .i64 x.no, .int .i64 x.kind, .int .i64 x.a, .int .i64 x.b, .int .i64 x.from_, .int .i64 x.until_, .int .i64 x.known, .int .i64 x.gone]
      have l10 := HD1.see x.kind
      have hlo := HD.out.lt
      clear hx htk hBr
      cases hq : hh x.kind with
      | none =>
        rw [hq] at l10
        obtain ⟨w2, r2, HD2, B2, k2⟩ := HD1.new hq (by rw [World.size_alloc]; omega)
        have r1 : Row w2 wr.heap.size 49 [.int .i64 x.no, .int .i64 x.kind, .int .i64 x.a, .int .i64 x.b, .int .i64 x.from_, .int .i64 x.until_, .int .i64 x.known, .int .i64 x.gone] := r0.keep (k2 _ (by rw [World.size_alloc]; omega) (by omega))
        obtain ⟨n0, n1, n2, n3, n4, n5, n6, n7⟩ := st8e r1
        rw [World.size_alloc] at r2 HD2
        have hz2 := B2.size
        rw [World.size_alloc] at hz2
        have l12 := HD2.see x.kind
        have hup : updN hh x.kind (wr.heap.size + 1) x.kind = some (wr.heap.size + 1) := by unfold updN; rw [if_pos rfl]
        rw [hup] at l12
        obtain ⟨w3, r3, HD3, B3⟩ := HD2.put hup (by omega) x.a x
        unfold En.val at r3
        have HH := Lib.hid HD3
        have HB3 := Lib.hid ((hBa.trans B2).trans B3)
        clear HD HD1 HD2 HD3 k2 r0 r1 B2 B3 hup hBa
        go_wp2
        go_roundg (gk - 1)
        case measure => omega
        case rel => exact ⟨HB3.out, k + 1, by first | rfl | go_num, by omega, by rw [HT.out]; exact ⟨_, HH.out⟩⟩
      | some q =>
        rw [hq] at l10
        obtain ⟨w3, r3, HD3, B3⟩ := HD1.put hq (by rw [World.size_alloc]; omega) x.a x
        unfold En.val at r3
        have HH := Lib.hid HD3
        have HB3 := Lib.hid (hBa.trans B3)
        clear HD HD1 HD3 r0 B3 hBa
        go_wp2
        go_roundg (gk - 1)
        case measure => omega
        case rel => exact ⟨HB3.out, k + 1, by first | rfl | go_num, by omega, by rw [HT.out]; exact ⟨_, HH.out⟩⟩
    · obtain rfl : k = X.length := by omega
      rw [List.take_length] at HD
      have HH := Lib.hid HD
      clear HD
      go_wp2
      go_ret2
      exact ⟨⟨_, rfl, DeskK.mono ⟨hh, HH.out⟩ hz1⟩, HB1.out.trans (hBr.mono hz1)⟩
set_option maxRecDepth 100000 in
set_option maxHeartbeats 1000000 in
theorem open_bad (l : List En) (v : Value) (person day time : Int) (w : World) (h : SlE w w.heap.size v l) (hs : stE l day time ≠ 0) :
    Calls Tryz.prog 52 #[v, .int .i64 person, .int .i64 day, .int .i64 time] w fun e w' => e = .returned (.tuple #[.map none, .int .i64 (stE l day time)]) ∧ Below w.heap.size w w' := by
  have hst := stand_any l v day time w h
  obtain ⟨cc, hcc⟩ : ∃ cc, stE l day time = cc := ⟨_, rfl⟩
  rw [hcc] at hst hs
  rw [hcc]
  have HST := Lib.hid hst
  have f0 : decide (cc = 0) = false := decide_eq_false hs
  clear hst hcc h
  go_enter Tryz.func52, Tryz.ntmps52
  go_wp2_with (go_at_call 76; (with_reducible refine HST.out.mono ?_); rintro e w1 ⟨⟨xv, rfl, hx⟩, hb1⟩; clear hx)
  go_ret2
  exact ⟨rfl, hb1⟩
set_option maxRecDepth 100000 in
set_option maxHeartbeats 1000000 in
theorem open_arg (l : List En) (v : Value) (person day time : Int) (w : World) (h : SlE w w.heap.size v l) (hs : stE l day time = 0) (hp : idB person = false) :
    Calls Tryz.prog 52 #[v, .int .i64 person, .int .i64 day, .int .i64 time] w fun e w' => e = .returned (.tuple #[.map none, .int .i64 1]) ∧ Below w.heap.size w w' := by
  have hst := stand_any l v day time w h
  rw [hs] at hst
  have HST := Lib.hid hst
  clear hst h hs
  have hor : person < 0 ∨ ¬ person < 0 ∧ 1048576 < person := by
    unfold idB at hp
    by_cases h0 : person < 0
    · exact .inl h0
    · refine .inr ⟨h0, ?_⟩
      by_cases h1 : person ≤ 1048576
      · rw [decide_eq_true h1, decide_eq_true (show 0 ≤ person by omega)] at hp; cases hp
      · omega
  clear hp
  rcases hor with h0 | ⟨h0, h1⟩
  · have f1 : decide (person < 0) = true := decide_eq_true h0
    clear h0
    go_enter Tryz.func52, Tryz.ntmps52
    go_wp2_with (go_at_call 76; (with_reducible refine HST.out.mono ?_); rintro e w1 ⟨⟨xv, rfl, hx⟩, hb1⟩; clear hx)
    go_ret2
    exact ⟨rfl, hb1⟩
  · have f1 : decide (person < 0) = false := decide_eq_false h0
    have f2 : decide (1048576 < person) = true := decide_eq_true h1
    clear h0 h1
    go_enter Tryz.func52, Tryz.ntmps52
    go_wp2_with (go_at_call 76; (with_reducible refine HST.out.mono ?_); rintro e w1 ⟨⟨xv, rfl, hx⟩, hb1⟩; clear hx)
    go_ret2
    exact ⟨rfl, hb1⟩
theorem openE_0 {l : List En} {person day time : Int} (h1 : stE l day time = 0) (h2 : idB person = true) : openE l person day time = 0 := by unfold openE; rw [if_pos h1, if_pos h2]
theorem openE_1 {l : List En} {person day time : Int} (h1 : stE l day time = 0) (h2 : idB person = false) : openE l person day time = 1 := by unfold openE; rw [if_pos h1, h2]; rfl
theorem openE_s {l : List En} {person day time : Int} (h1 : stE l day time ≠ 0) : openE l person day time = stE l day time := by unfold openE; rw [if_neg h1]
theorem open_none (l : List En) (v : Value) (person day time : Int) (w : World) (h : SlE w w.heap.size v l) (hs : openE l person day time ≠ 0) :
    Calls Tryz.prog 52 #[v, .int .i64 person, .int .i64 day, .int .i64 time] w fun e w' => e = .returned (.tuple #[.map none, .int .i64 (openE l person day time)]) ∧ Below w.heap.size w w' := by
  by_cases h1 : stE l day time = 0
  · cases h2 : idB person with
    | true => exact absurd (openE_0 h1 h2) hs
    | false => rw [openE_1 h1 h2]; exact open_arg l v person day time w h h1 h2
  · rw [openE_s h1]; exact open_bad l v person day time w h h1
theorem open_some (l : List En) (v : Value) (person day time : Int) (w : World) (h : SlE w w.heap.size v l) (hs : openE l person day time = 0) :
    Calls Tryz.prog 52 #[v, .int .i64 person, .int .i64 day, .int .i64 time] w fun e w' => (∃ bd, e = .returned (.tuple #[.map (some bd), .int .i64 0]) ∧ DeskK w.heap.size w' bd (deskL (standX l day time))) ∧ Below w.heap.size w w' := by
  by_cases h1 : stE l day time = 0
  · cases h2 : idB person with
    | true => exact open_good l v person day time w h h1 h2
    | false => rw [openE_1 h1 h2] at hs; cases hs
  · rw [openE_s h1] at hs; exact absurd hs h1
end Go.Proofs.YthckledagggoiaaGreatDoor

set_option linter.unusedSimpArgs false
set_option linter.unusedVariables false
namespace Go.Proofs.YthckledagggoiaaGreatDoor
open Go.RowKit Go.MapKept Go.Shelf Fk
attribute [local go_sem] Oper.semAt_some
/-! homes.asked: whom a letter's person is asked for. -/
inductive Chain (D : Int → Option En) : Int → List Int → List (Int × Bool) → Prop
  | stop {p : Int} {met : List Int} : D p = none → Chain D p met [(p, false)]
  | circle {p : Int} {met : List Int} {x : En} : D p = some x → x.b ∈ met → Chain D p met [(p, true)]
  | step {p : Int} {met : List Int} {x : En} {r : List (Int × Bool)} : D p = some x → ¬ x.b ∈ met → Chain D x.b (x.b :: met) r → Chain D p met ((p, false) :: r)
noncomputable def metM (met : List Int) : Int → Option Value := fun a => if a ∈ met then some (.bool true) else none
theorem metM_put (met : List Int) (a : Int) : updF (metM met) a (.bool true) = metM (a :: met) := by
  funext x
  unfold metM
  by_cases h : x = a
  · subst h; rw [updF_same, if_pos (by simp)]
  · rw [updF_ne _ _ h]
    by_cases h2 : x ∈ met
    · rw [if_pos h2, if_pos (by simp [h2])]
    · rw [if_neg h2, if_neg (by simp [h, h2])]
theorem metM_get (met : List Int) (a : Int) : (metM met a).getD (.bool false) = .bool (decide (a ∈ met)) := by
  unfold metM
  by_cases h : a ∈ met
  · rw [if_pos h, decide_eq_true h]; rfl
  · rw [if_neg h, decide_eq_false h]; rfl
theorem zero_bool2 (w : World) : (zeroValue 4).run Tryz.prog w = .ok (.bool false) w := by kernel_rfl
theorem DeskK.keepB {base : Nat} {w w' : World} {bd : Nat} {D : Int → Int → Option En} (H : DeskK base w bd D) (hk : ∀ r, r < w.heap.size → w'.heap[r]? = w.heap[r]?) : DeskK base w' bd D := by
  obtain ⟨h, H⟩ := H
  exact ⟨h, H.out.keep (hk _ H.out.lt), fun k b hb => ⟨(H.inn k b hb).1.keep (hk _ (H.inn k b hb).1.lt), (H.inn k b hb).2⟩, H.no, H.one, H.low⟩
/-! the chain there is -/
def left (L met : List Int) : Nat := (L.filter fun a => decide (a ∉ met)).length
theorem left_lt {L met : List Int} {q : Int} (h1 : q ∈ L) (h2 : q ∉ met) : left L (q :: met) < left L met := by
  unfold left
  induction L with
  | nil => cases h1
  | cons a L ih =>
    rw [List.filter_cons, List.filter_cons]
    by_cases ha : a = q
    · subst ha
      rw [if_neg (by simp), if_pos (by simpa using h2), List.length_cons]
      have : (L.filter fun b => decide (b ∉ a :: met)).length ≤ (L.filter fun b => decide (b ∉ met)).length := by
        clear ih h1
        induction L with
        | nil => simp
        | cons b L ih =>
          rw [List.filter_cons, List.filter_cons]
          by_cases hb : b ∈ met
          · rw [if_neg (by simp [hb]), if_neg (by simp [hb])]; exact ih
          · rw [if_pos (show decide (b ∉ met) = true by simpa using hb)]
            split
            · simp only [List.length_cons]; omega
            · simp only [List.length_cons]; omega
      omega
    · have hq : q ∈ L := by
        rcases List.mem_cons.1 h1 with e | e
        · exact absurd e.symm ha
        · exact e
      have := ih hq
      by_cases hb : a ∈ met
      · rw [if_neg (by simp [hb]), if_neg (by simp [hb])]; exact this
      · rw [if_pos (show decide (a ∉ q :: met) = true by simp [ha, hb]), if_pos (show decide (a ∉ met) = true by simpa using hb)]
        simp only [List.length_cons]; omega
theorem left_le (L met : List Int) (q : Int) : left L (q :: met) ≤ left L met := by
  unfold left
  induction L with
  | nil => simp
  | cons b L ih =>
    rw [List.filter_cons, List.filter_cons]
    by_cases hb : b ∈ met
    · rw [if_neg (by simp [hb]), if_neg (by simp [hb])]; exact ih
    · rw [if_pos (show decide (b ∉ met) = true by simpa using hb)]
      split
      · simp only [List.length_cons]; omega
      · simp only [List.length_cons]; omega
end Go.Proofs.YthckledagggoiaaGreatDoor

set_option linter.unusedSimpArgs false
set_option linter.unusedVariables false
namespace Go.Proofs.YthckledagggoiaaGreatDoor
open Go.RowKit Go.MapKept Go.Shelf Fk
attribute [local go_sem] Oper.semAt_some
/-! homes.asked: the iterator. -/
theorem wpIn_scope_wide {P : Program} {n : Nat} {Q : Exit → Act → World → Prop} {a : Act} {w : World} {c : Code} (h : c.wpIn Fence.wide n P (Exit.noGoto Q) a w) : (Code.scope c).wpIn Fence.wide n P Q a w :=
  wpIn_wide.2 (wp_scope_straight (wpIn_wide.1 h))
abbrev askV (q : Int × Bool) : Array Value := #[.int .i64 q.1, .bool q.2]
set_option maxRecDepth 100000 in
set_option maxHeartbeats 4000000 in
theorem asked_seq (base : Nat) (D : Int → Int → Option En) (p0 : Int) (l : List (Int × Bool)) (hl : Chain (D 2) p0 [p0] l) (bp bx bd B0 K : Nat) (hK : bp < K ∧ bx < K ∧ B0 ≤ bp ∧ B0 ≤ bx ∧ bp ≠ bx) (m : Nat) (hm : 1 ≤ m) :
    SeqL Fence.wide m Tryz.prog 111 #[.pointer (some ⟨bp, 0, none⟩), .pointer (some ⟨bx, 0, none⟩)] (l.map askV)
      (fun r => r = bp ∨ r = K) (fun r => r = bp ∨ r = bx ∨ K ≤ r ∨ r < B0) (fun W => Boxed W bp 3 (.int .i64 p0) ∧ Boxed W bx 104 (.map (some bd)) ∧ ∃ Wd, Wd.heap.size ≤ B0 ∧ DeskK base Wd bd D ∧ Below Wd.heap.size Wd W) K := fun L J Jx W hT hK' hJ hJx hY h0 => by
  obtain ⟨hT1, hT2, Wd, hd1, hd2, hd3⟩ := hT
  refine callsIn_of_wp Tryz.func111 rfl trivial ?_ rfl
  simp only [Tryz.ntmps111, List.size_toArray, List.length_cons, List.length_nil, Nat.reduceAdd, Nat.reduceSub, Array.replicate_succ, Array.replicate_zero, List.push_toArray, List.append_toArray, List.nil_append, List.cons_append]
  have c1 := hT1.cell
  have hmm := @run_makeMap Tryz.prog
  obtain ⟨w1, r1, m1, g1⟩ := (MapK.made (Value.int .i64) W).put law_int Tryz.underlying131 p0 (.bool true)
  have e0 : updF (fun _ => none) p0 (.bool true) = metM [p0] := by
    have h : (fun _ => none : Int → Option Value) = metM [] := by funext a; unfold metM; rw [if_neg (by simp)]
    rw [h, metM_put]
  rw [e0] at m1
  have b1 : Boxed w1 bp 3 (.int .i64 p0) := (hT1.alloc _).kept g1 (fun e => by have := Option.some.inj e; omega)
  have b2 : Boxed w1 bx 104 (.map (some bd)) := (hT2.alloc _).kept g1 (fun e => by have := Option.some.inj e; omega)
  have hz1 := g1.size
  rw [World.size_alloc] at hz1
  have hJ1 : J 0 w1 := hJ 0 _ _ (some W.heap.size) (hJ.new _ h0) g1 (fun r e => .inr (by rw [← Option.some.inj e]; exact hK'))
  have hd4 : Below Wd.heap.size Wd w1 := (hd3.alloc hd3.size _).grown g1 (by have := hd3.size; simp; omega) (fun r e => by have := Option.some.inj e; have := hd3.size; omega)
  rw [hK'] at m1 r1
  have HM := Lib.hid m1
  have HD4 := Lib.hid hd4
  have HD2 := Lib.hid hd2
  clear m1 g1 e0 hd3 hd4 hd2
  refine wpIn_scope_wide ?_
  gi_wp2
  refine wpIn_label ?_
  gi_wp2
  gi_loopg [] l.length (fun g wr => ∃ (p : Int) (met : List Int) (r : List (Int × Bool)) (k : Nat), Chain (D 2) p met r ∧ l.drop k = r ∧ r.length = g ∧ k + g = l.length ∧ Boxed wr bp 3 (.int .i64 p) ∧ Boxed wr bx 104 (.map (some bd)) ∧ MapK (Value.int .i64) wr K (metM met) ∧ (∀ r, r < Wd.heap.size → wr.heap[r]? = Wd.heap[r]?) ∧ J k wr)
  case atStart => exact ⟨p0, [p0], l, 0, hl, rfl, rfl, by omega, b1, b2, HM.out, HD4.out.block, hJ1⟩
  case round =>
    obtain ⟨p, met, r, k, hch, hdr, hg, hkg, i1, i2, im, ib, iJ⟩ := hrel
    have HDk : DeskK base wr bd D := HD2.out.keepB ib
    obtain ⟨mv, l1, l2⟩ := HDk.look 2
    have l2p := l2 p true
    rw [if_pos rfl] at l2p
    have c2 := i1.cell
    have c3 := i2.cell
    have hlm := im.lt
    have c4 : ∀ X, (wr.alloc X).cell? ⟨bp, 0, none⟩ = some (.int .i64 p) := fun X => (i1.alloc X).cell
    have hbp : bp < wr.heap.size := by omega
    have hbx : bx < wr.heap.size := by omega
    have hdl : r = l.drop k := hdr.symm
    clear l2 HDk c1 r1 b1 b2
    cases hch with
    | stop hp =>
      rw [hp] at l2p
      have hv : (l.map askV)[k]? = some (askV (p, false)) := by
        have := congrArg (fun t => t[0]?) hdr
        simp only [List.getElem?_drop, Nat.add_zero, List.getElem?_cons_zero] at this
        rw [List.getElem?_map, this]; rfl
      have hkl : k + 1 = l.length := by simp at hg; omega
      have hJn : J k (wr.alloc (.cells #[.int .i64 0, .int .i64 0, .int .i64 0, .int .i64 0, .int .i64 0, .int .i64 0, .int .i64 0, .int .i64 0] 49)) := hJ.new _ iJ
      obtain ⟨fn, tmps, assign, body, hy, hR⟩ := hY k _ _ hJn (by simp; omega) hv
      simp only [Option.getD_none, Option.isSome_none, zeroE, En.val] at l2p
      have HL := Lib.hid hkl
      clear hv hdl hdr hkg hJn hkl
      gi_wp2
      refine hR.mono ?_
      rintro e W3 (⟨rfl, hJ3, hS3, hz3⟩ | ⟨rfl, hJx3⟩)
      · gi_wp2
        rw [Exit.noGoto_normal]
        go_end0
        exact ⟨⟨_, rfl⟩, .inl (by rw [List.length_map, ← HL.out]; exact hJ3)⟩
      · gi_wp2
        rw [Exit.noGoto_normal]
        go_end0
        exact ⟨⟨_, rfl⟩, .inr ⟨k, by rw [List.length_map]; have := HL.out; omega, hJx3⟩⟩
    | @circle _ _ x hp hm =>
      rw [hp] at l2p
      have hv : (l.map askV)[k]? = some (askV (p, true)) := by
        have := congrArg (fun t => t[0]?) hdr
        simp only [List.getElem?_drop, Nat.add_zero, List.getElem?_cons_zero] at this
        rw [List.getElem?_map, this]; rfl
      have hkl : k + 1 = l.length := by simp at hg; omega
      have hJn : J k (wr.alloc (.cells #[.int .i64 x.no, .int .i64 x.kind, .int .i64 x.a, .int .i64 x.b, .int .i64 x.from_, .int .i64 x.until_, .int .i64 x.known, .int .i64 x.gone] 49)) := hJ.new _ iJ
      obtain ⟨fn, tmps, assign, body, hy, hR⟩ := hY k _ _ hJn (by simp; omega) hv
      simp only [Option.getD_some, Option.isSome_some] at l2p
      have l3 := (im.alloc (.cells #[.int .i64 x.no, .int .i64 x.kind, .int .i64 x.a, .int .i64 x.b, .int .i64 x.from_, .int .i64 x.until_, .int .i64 x.known, .int .i64 x.gone] 49)).look law_int Tryz.underlying131 (zero_bool2 _) x.b false
      rw [if_neg (by decide), metM_get, decide_eq_true hm] at l3
      unfold En.val at l2p
      have HL := Lib.hid hkl
      clear hv hdl hdr hkg hJn hkl hm
      gi_wp2
      refine hR.mono ?_
      rintro e W3 (⟨rfl, hJ3, hS3, hz3⟩ | ⟨rfl, hJx3⟩)
      · gi_wp2
        rw [Exit.noGoto_normal]
        go_end0
        exact ⟨⟨_, rfl⟩, .inl (by rw [List.length_map, ← HL.out]; exact hJ3)⟩
      · gi_wp2
        rw [Exit.noGoto_normal]
        go_end0
        exact ⟨⟨_, rfl⟩, .inr ⟨k, by rw [List.length_map]; have := HL.out; omega, hJx3⟩⟩
    | @step _ _ x r' hp hm hr =>
      rw [hp] at l2p
      have hv : (l.map askV)[k]? = some (askV (p, false)) := by
        have := congrArg (fun t => t[0]?) hdr
        simp only [List.getElem?_drop, Nat.add_zero, List.getElem?_cons_zero] at this
        rw [List.getElem?_map, this]; rfl
      have hdr2 : l.drop (k + 1) = r' := by
        have := congrArg List.tail hdr
        rw [List.tail_cons, List.tail_drop] at this
        exact this
      have hgk : r'.length + 1 = gk := by simpa using hg
      have hJn : J k (wr.alloc (.cells #[.int .i64 x.no, .int .i64 x.kind, .int .i64 x.a, .int .i64 x.b, .int .i64 x.from_, .int .i64 x.until_, .int .i64 x.known, .int .i64 x.gone] 49)) := hJ.new _ iJ
      obtain ⟨fn, tmps, assign, body, hy, hR⟩ := hY k _ _ hJn (by simp; omega) hv
      simp only [Option.getD_some, Option.isSome_some] at l2p
      have l3 := (im.alloc (.cells #[.int .i64 x.no, .int .i64 x.kind, .int .i64 x.a, .int .i64 x.b, .int .i64 x.from_, .int .i64 x.until_, .int .i64 x.known, .int .i64 x.gone] 49)).look law_int Tryz.underlying131 (zero_bool2 _) x.b false
      rw [if_neg (by decide), metM_get, decide_eq_false hm] at l3
      unfold En.val at l2p
      have HD := Lib.hid hdr2
      have HK := Lib.hid hkg
      have HG := Lib.hid hgk
      have HC := Lib.hid hr
      clear hv hdl hdr hJn hdr2 hkg hgk hg hr hm
      gi_wp2
      refine hR.mono ?_
      rintro e W3 (⟨rfl, hJ3, hS3, hz3⟩ | ⟨rfl, hJx3⟩)
      · have k1 : Boxed W3 bp 3 (.int .i64 p) := (hS3 bp (.inl rfl)).trans (i1.alloc _)
        have k2 : Boxed W3 bx 104 (.map (some bd)) := (hS3 bx (.inr (.inl rfl))).trans (i2.alloc _)
        have km : MapK (Value.int .i64) W3 K (metM met) := (im.alloc _).keep (hS3 K (.inr (.inr (.inl (Nat.le_refl _)))))
        have kr : Row W3 wr.heap.size 49 [.int .i64 x.no, .int .i64 x.kind, .int .i64 x.a, .int .i64 x.b, .int .i64 x.from_, .int .i64 x.until_, .int .i64 x.known, .int .i64 x.gone] := (hS3 wr.heap.size (.inr (.inr (.inl (by omega))))).trans (Row.new wr 49 [.int .i64 x.no, .int .i64 x.kind, .int .i64 x.a, .int .i64 x.b, .int .i64 x.from_, .int .i64 x.until_, .int .i64 x.known, .int .i64 x.gone])
        have kb : ∀ r, r < Wd.heap.size → W3.heap[r]? = Wd.heap[r]? := fun r h => (hS3 r (.inr (.inr (.inr (by omega))))).trans ((Below.heap_alloc _ _ r (by omega)).trans (ib r h))
        obtain ⟨n0, n1, n2, n3, n4, n5, n6, n7⟩ := st8e kr
        have q1 := k1.cell
        have q2 := k1.frozen
        have km2 : MapK (Value.int .i64) (W3.setCell ⟨bp, 0, none⟩ (.int .i64 x.b)).drew K (metM met) := km.keep (Below.heap_setCell _ _ _ K (by simp only []; omega))
        obtain ⟨w5, r5, m5, g5⟩ := km2.put law_int Tryz.underlying131 x.b (.bool true)
        have k1s : Boxed (W3.setCell ⟨bp, 0, none⟩ (.int .i64 x.b)).drew bp 3 (.int .i64 x.b) := k1.set _
        have k2s : Boxed (W3.setCell ⟨bp, 0, none⟩ (.int .i64 x.b)).drew bx 104 (.map (some bd)) := k2.other (B' := bp) (by omega) _
        gi_wp2
        gi_region
        gi_wp2
        have hB0 : Wd.heap.size ≤ bp := by omega
        have hJ4 : J (k + 1) (W3.setCell ⟨bp, 0, none⟩ (.int .i64 x.b)) := hJ (k + 1) _ _ (some bp) hJ3 (grownBy_setCell' W3 bp _) (fun r e => .inl (Option.some.inj e).symm)
        have hJ5 : J (k + 1) (W3.setCell ⟨bp, 0, none⟩ (.int .i64 x.b)).drew := hJ (k + 1) _ _ none hJ4 ⟨rfl, rfl, rfl, Nat.le_refl _, fun _ _ _ => rfl⟩ (fun r e => by cases e)
        have hJ6 : J (k + 1) w5 := hJ (k + 1) _ _ (some K) hJ5 g5 (fun r e => .inr (Option.some.inj e).symm)
        have k1e : Boxed w5 bp 3 (.int .i64 x.b) := k1s.kept g5 (fun e => by have := Option.some.inj e; omega)
        have k2e : Boxed w5 bx 104 (.map (some bd)) := k2s.kept g5 (fun e => by have := Option.some.inj e; omega)
        have kbe : ∀ r, r < Wd.heap.size → w5.heap[r]? = Wd.heap[r]? := fun r h => (g5.block r (by have := k1s.lt; omega) (fun e => by have := Option.some.inj e; omega)).trans ((Below.heap_setCell W3 ⟨bp, 0, none⟩ _ r (by simp only []; omega)).trans (kb r h))
        rw [metM_put] at m5
        gi_roundg (gk - 1)
        case measure => have := HG.out; omega
        case rel => exact ⟨x.b, x.b :: met, r', k + 1, HC.out, HD.out, by have := HG.out; omega, by have := HG.out; have := HK.out; omega, k1e, k2e, m5, kbe, hJ6⟩
      · gi_wp2
        rw [Exit.noGoto_normal]
        go_end0
        exact ⟨⟨_, rfl⟩, .inr ⟨k, by rw [List.length_map]; have := HK.out; have := HG.out; omega, hJx3⟩⟩
end Go.Proofs.YthckledagggoiaaGreatDoor

set_option linter.unusedSimpArgs false
set_option linter.unusedVariables false
namespace Go.Proofs.YthckledagggoiaaGreatDoor
open Go.RowKit Go.MapKept Go.Shelf Fk
/-! homes.Where: its functions. -/
abbrev homeV (k p o : Int) : Value := .agg #[.int .i64 k, .int .i64 p, .int .i64 o]
set_option maxHeartbeats 400000 in
theorem asked_any (q : Option Nat) (p : Int) (w : World) :
    Calls Tryz.prog 53 #[.map q, .int .i64 p] w fun e w' => e = .returned (.func (.func 111) #[] #[.pointer (some ⟨w.heap.size + 1, 0, none⟩), .pointer (some ⟨w.heap.size, 0, none⟩)]) ∧
      (w.alloc (.cells #[.map q] 104)).alloc (.cells #[.int .i64 p] 3) = w' := by
  go_enter Tryz.func53, Tryz.ntmps53
  go_wp2
  go_ret
  exact ⟨rfl, rfl⟩
set_option maxHeartbeats 1000000 in
theorem says_any (base bd b10 b11 : Nat) (D : Int → Int → Option En) (kind last : Int) (w : World) (h1 : Boxed w b10 104 (.map (some bd))) (h2 : Boxed w b11 3 (.int .i64 last)) (hd : DeskK base w bd D) :
    Calls Tryz.prog 94 #[.int .i64 kind, .pointer (some ⟨b10, 0, none⟩), .pointer (some ⟨b11, 0, none⟩)] w fun e w' => e = .returned (.bool (D kind last).isSome) ∧ Below w.heap.size w w' := by
  obtain ⟨mv, l1, l2⟩ := hd.look kind
  have l2p := l2 last true
  rw [if_pos rfl] at l2p
  have c1 := h1.cell
  have c2 := h2.cell
  obtain ⟨o, ho⟩ : ∃ o, (D kind last).getD zeroE = o := ⟨_, rfl⟩
  obtain ⟨s, hs⟩ : ∃ s, (D kind last).isSome = s := ⟨_, rfl⟩
  rw [ho, hs] at l2p
  rw [hs]
  unfold En.val at l2p
  clear ho hs l2 hd
  go_enter Tryz.func94, Tryz.ntmps94
  go_wp2
  go_ret
  exact ⟨rfl, (Below.refl _ _).alloc (Nat.le_refl _) _⟩
set_option maxHeartbeats 400000 in
theorem wh2_any (b12 : Nat) (c : Bool) (w : World) (h : Boxed w b12 4 (.bool c)) :
    Calls Tryz.prog 95 #[.pointer (some ⟨b12, 0, none⟩)] w fun e w' => e = .returned (.bool c) ∧ w' = w := by
  have c1 := h.cell
  go_enter Tryz.func95, Tryz.ntmps95
  go_wp2
  go_ret
  exact ⟨rfl, rfl⟩
theorem infoHome : (Tryz.prog.info? 30).map (·.size) = some 3 := by kernel_rfl
theorem ret_home {f : Func} {p : Tmp} (hf : f.results = #[.cell p 30]) (tmps : Array Value) (w : World) (g : Nat) (k q o : Int) (hp : tmps.getD p undef = .pointer (some ⟨g, 0, none⟩)) (hr : Row w g 30 [.int .i64 k, .int .i64 q, .int .i64 o]) :
    (results f tmps).run Tryz.prog w = .ok (homeV k q o) w :=
  results_cell_row hf tmps w g 30 _ (0, 0) _ hp hr Tryz.underlying30 rfl infoHome
set_option maxHeartbeats 400000 in
theorem wh3_any (b5 : Nat) (p : Int) (w : World) (h : Boxed w b5 3 (.int .i64 p)) :
    Calls Tryz.prog 96 #[.pointer (some ⟨b5, 0, none⟩)] w fun e w' => e = .returned (homeV 2 p 0) ∧ Below w.heap.size w w' := by
  have c1 := h.cell
  have hlt := h.lt
  go_enter Tryz.func96, Tryz.ntmps96
  go_wp2
  exact bodyPost_ret (ret_home rfl _ _ w.heap.size 2 p 0 rfl (Row.new w _ _)) rfl ⟨rfl, (Below.refl _ _).alloc (Nat.le_refl _) _⟩
set_option maxHeartbeats 400000 in
theorem wh5_any (b11 : Nat) (p : Int) (w : World) (h : Boxed w b11 3 (.int .i64 p)) :
    Calls Tryz.prog 98 #[.pointer (some ⟨b11, 0, none⟩)] w fun e w' => e = .returned (homeV 3 p 0) ∧ Below w.heap.size w w' := by
  have c1 := h.cell
  have hlt := h.lt
  go_enter Tryz.func98, Tryz.ntmps98
  go_wp2
  exact bodyPost_ret (ret_home rfl _ _ w.heap.size 3 p 0 rfl (Row.new w _ _)) rfl ⟨rfl, (Below.refl _ _).alloc (Nat.le_refl _) _⟩
theorem field_b (n k a b f u q g : Int) (w : World) : (Instr.field 49 (.agg #[.int .i64 n, .int .i64 k, .int .i64 a, .int .i64 b, .int .i64 f, .int .i64 u, .int .i64 q, .int .i64 g]) 3).run Tryz.prog w = .ok (.int .i64 b) w := by kernel_rfl
set_option maxRecDepth 100000 in
set_option maxHeartbeats 1000000 in
theorem wh7_any (base bd b10 b11 : Nat) (D : Int → Int → Option En) (last : Int) (w : World) (h1 : Boxed w b10 104 (.map (some bd))) (h2 : Boxed w b11 3 (.int .i64 last)) (hd : DeskK base w bd D) :
    Calls Tryz.prog 100 #[.pointer (some ⟨b11, 0, none⟩), .pointer (some ⟨b10, 0, none⟩)] w fun e w' => e = .returned (homeV 1 last ((D 1 last).getD zeroE).b) ∧ Below w.heap.size w w' := by
  have hd2 := hd.below ((Below.refl w.heap.size w).alloc (Nat.le_refl _) (.cells #[.int .i64 0, .int .i64 0, .int .i64 0] 30))
  obtain ⟨mv, l1, l2⟩ := hd2.look 1
  have l2p := l2 last false
  rw [if_neg (by decide)] at l2p
  have c1 := h1.cell
  have c2 := h2.cell
  have hl1 := h1.lt
  have hl2 := h2.lt
  obtain ⟨o, ho⟩ : ∃ o, (D 1 last).getD zeroE = o := ⟨_, rfl⟩
  rw [ho] at l2p
  rw [ho]
  unfold En.val at l2p
  clear ho l2 hd hd2
  have hf := field_b
  go_enter Tryz.func100, Tryz.ntmps100
  go_wp2
  exact bodyPost_ret (ret_home rfl _ _ w.heap.size 1 last o.b rfl (Row.new w _ _)) rfl ⟨rfl, (Below.refl _ _).alloc (Nat.le_refl _) _⟩
/-- the function value 'says', in its box -/
abbrev saysV (b10 b11 : Nat) : Value := .func (.func 94) #[] #[.pointer (some ⟨b10, 0, none⟩), .pointer (some ⟨b11, 0, none⟩)]
set_option maxHeartbeats 1000000 in
theorem wh6_any (base bd b10 b11 b15 : Nat) (D : Int → Int → Option En) (last : Int) (w : World) (h1 : Boxed w b10 104 (.map (some bd))) (h2 : Boxed w b11 3 (.int .i64 last)) (h3 : Boxed w b15 101 (saysV b10 b11)) (hd : DeskK base w bd D) :
    Calls Tryz.prog 99 #[.pointer (some ⟨b15, 0, none⟩)] w fun e w' => e = .returned (.bool (D 1 last).isSome) ∧ Below w.heap.size w w' := by
  have H1 := Lib.hid (says_any base bd b10 b11 D 1 last w h1 h2 hd)
  have c1 := h3.cell
  clear h1 h2 hd
  go_enter Tryz.func99, Tryz.ntmps99
  go_wp2_with (go_at_call 94; (with_reducible refine H1.out.mono ?_); rintro e w1 ⟨rfl, hb1⟩)
  go_ret
  exact ⟨rfl, hb1⟩
set_option maxHeartbeats 1000000 in
theorem wh4_any (base bd b10 b11 b15 : Nat) (D : Int → Int → Option En) (last : Int) (w : World) (h1 : Boxed w b10 104 (.map (some bd))) (h2 : Boxed w b11 3 (.int .i64 last)) (h3 : Boxed w b15 101 (saysV b10 b11)) (hd : DeskK base w bd D) :
    Calls Tryz.prog 97 #[.pointer (some ⟨b15, 0, none⟩)] w fun e w' => e = .returned (.bool ((D 3 last).isSome || (D 4 last).isSome)) ∧ Below w.heap.size w w' := by
  have H1 := Lib.hid (says_any base bd b10 b11 D 3 last w h1 h2 hd)
  have c1 := h3.cell
  cases hs : (D 3 last).isSome with
  | true =>
    rw [hs] at H1
    clear h1 h2 hd
    go_enter Tryz.func97, Tryz.ntmps97
    go_wp2_with (go_at_call 94; (with_reducible refine H1.out.mono ?_); rintro e w1 ⟨rfl, hb1⟩)
    go_ret
    exact ⟨rfl, hb1⟩
  | false =>
    rw [hs] at H1
    have H2 := Lib.hid (fun W (hb : Below w.heap.size w W) => says_any base bd b10 b11 D 4 last W ((hb.block _ h1.lt).trans h1) ((hb.block _ h2.lt).trans h2) (hd.below hb))
    have hl3 := h3.lt
    have H3 := Lib.hid h3
    clear h1 h2 hd h3
    rw [Bool.false_or]
    go_enter Tryz.func97, Tryz.ntmps97
    go_wp2_with (first | (go_at_call 94; (with_reducible refine H1.out.mono ?_); rintro e w1 ⟨rfl, hb1⟩; have c2 := (show Boxed w1 b15 101 (saysV b10 b11) from (hb1.block _ hl3).trans H3.out).cell) | (go_at_call 94; (with_reducible refine (H2.out _ hb1).mono ?_); rintro e w2 ⟨rfl, hb2⟩))
    go_ret
    exact ⟨rfl, hb1.trans (hb2.mono hb1.size)⟩
end Go.Proofs.YthckledagggoiaaGreatDoor

set_option linter.unusedSimpArgs false
set_option linter.unusedVariables false
namespace Go.Proofs.YthckledagggoiaaGreatDoor
open Go.RowKit Go.MapKept Go.Shelf Fk
/-! homes.Where in plain words. -/
def endF (D : Int → Option En) : Nat → Int → List Int → Int × Bool
  | 0, p, _ => (p, false)
  | n + 1, p, met => match D p with
    | none => (p, false)
    | some x => if x.b ∈ met then (p, true) else endF D n x.b (x.b :: met)
theorem chain_end (D : Int → Option En) (L : List Int) (hL : ∀ p x, D p = some x → p ∈ L) : ∀ (n : Nat) (p : Int) (met : List Int), 2 * left L met + (if p ∈ L then 1 else 0) < n → ∃ r, Chain D p met r ∧ r.getLast? = some (endF D n p met) := by
  intro n
  induction n with
  | zero => intro p met h; omega
  | succ n ih =>
    intro p met h
    unfold endF
    cases hp : D p with
    | none => exact ⟨_, .stop hp, rfl⟩
    | some x =>
      by_cases hm : x.b ∈ met
      · exact ⟨_, .circle hp hm, by simp only [if_pos hm]; rfl⟩
      · rw [if_pos (hL p x hp)] at h
        have hn : 2 * left L (x.b :: met) + (if x.b ∈ L then 1 else 0) < n := by
          by_cases hq : x.b ∈ L
          · have := left_lt hq hm
            rw [if_pos hq]; omega
          · have := left_le L met x.b
            rw [if_neg hq]; omega
        obtain ⟨r, hr, hq⟩ := ih x.b (x.b :: met) hn
        refine ⟨_, .step hp hm hr, ?_⟩
        simp only [if_neg hm]
        rw [List.getLast?_cons, hq]; rfl
theorem deskL_mem (X : List En) (k a : Int) (x : En) (h : deskL X k a = some x) : a ∈ X.map (·.a) := by
  have aux : ∀ (X : List En) (D : Int → Int → Option En), X.foldl (fun D y => upd2 D y.kind y.a y) D k a = some x → D k a = some x ∨ a ∈ X.map (·.a) := by
    intro X
    induction X with
    | nil => intro D h; exact .inl h
    | cons y X ih =>
      intro D h
      rcases ih _ h with h1 | h1
      · by_cases hc : k = y.kind ∧ a = y.a
        · exact .inr (by rw [List.map_cons, hc.2]; exact List.mem_cons_self)
        · have h2 : (if k = y.kind ∧ a = y.a then some y else D k a) = some x := h1
          rw [if_neg hc] at h2; exact .inl h2
      · exact .inr (List.mem_cons_of_mem _ h1)
  rcases aux X _ h with h1 | h1
  · cases h1
  · exact h1
theorem left_len (L met : List Int) : left L met ≤ L.length := List.length_filter_le _ _
def whereD (D : Int → Int → Option En) (p : Int) (q : Int × Bool) : Int × Int × Int :=
  if q.2 = true then (2, p, 0) else if ((D 3 q.1).isSome || (D 4 q.1).isSome) = true then (3, q.1, 0) else if (D 1 q.1).isSome = true then (1, q.1, ((D 1 q.1).getD zeroE).b) else (2, q.1, 0)
def endL (X : List En) (p : Int) : Int × Bool := endF (deskL X 2) (2 * X.length + 2) p [p]
def whereH (l : List En) (p day time : Int) : Int × Int × Int :=
  if openE l p day time = 0 then whereD (deskL (standX l day time)) p (endL (standX l day time) p) else (0, 0, 0)
theorem chain_desk (X : List En) (p : Int) : ∃ r, Chain (deskL X 2) p [p] r ∧ r.getLast? = some (endL X p) :=
  chain_end (deskL X 2) (X.map (·.a)) (fun p x h => deskL_mem X 2 p x h) (2 * X.length + 2) p [p] (by
    have := left_len (X.map (·.a)) [p]
    rw [List.length_map] at this
    split <;> omega)
abbrev hv (t : Int × Int × Int) : Value := homeV t.1 t.2.1 t.2.2
/-- what t11 and t12 hold after k rounds -/
def lastQ (p : Int) (l : List (Int × Bool)) (k : Nat) : Int × Bool := ((l.take k).getLast?).getD (p, false)
theorem lastQ_succ (p : Int) {l : List (Int × Bool)} {k : Nat} {q : Int × Bool} (h : l[k]? = some q) : lastQ p l (k + 1) = q := by
  unfold lastQ
  rw [List.take_add_one, h, Option.toList_some, List.getLast?_append]; simp
theorem lastQ_all (p : Int) {l : List (Int × Bool)} {q : Int × Bool} (h : l.getLast? = some q) : lastQ p l l.length = q := by
  unfold lastQ
  rw [List.take_length, h]; rfl
end Go.Proofs.YthckledagggoiaaGreatDoor

set_option linter.unusedSimpArgs false
set_option linter.unusedVariables false
namespace Go.Proofs.YthckledagggoiaaGreatDoor
open Go.RowKit Go.MapKept Go.Shelf Fk
attribute [local go_sem] Oper.semAt_some
/-! homes.Where. -/
theorem rowAt {w : World} {n : Nat} (h : w.heap.size = n) (t : TypeId) (vs : List Value) : Row (w.alloc (.cells vs.toArray t)) n t vs := h ▸ Row.new w t vs
theorem two_new (w : World) (o : Obj) (t : TypeId) (vs : List Value) : Row ((w.alloc o).alloc (.cells vs.toArray t)) (w.heap.size + 1) t vs := rowAt (by simp) t vs
theorem st3h {W : World} {g : Nat} {t : TypeId} {a b c : Value} (h : Row W g t [a, b, c]) : W.cell? ⟨g, 0, none⟩ = some a ∧ W.cell? ⟨g, 1, none⟩ = some b ∧ W.cell? ⟨g, 2, none⟩ = some c := ⟨h.cell 0, h.cell 1, h.cell 2⟩
theorem ret_where (tmps : Array Value) (W : World) (g : Nat) (k q o E : Int) (h8 : tmps[8]?.getD undef = .pointer (some ⟨g, 0, none⟩)) (h9 : tmps[9]?.getD undef = .int .i64 E) (hr : Row W g 30 [.int .i64 k, .int .i64 q, .int .i64 o]) :
    (results Tryz.f40 tmps).run Tryz.prog W = .ok (.tuple #[homeV k q o, .int .i64 E]) W := by
  obtain ⟨m0, m1, m2⟩ := st3h hr
  simp [results, Tryz.f40, go_sem, h8, h9, m0, m1, m2]
set_option maxRecDepth 100000 in
set_option maxHeartbeats 2000000 in
theorem where_none (l : List En) (v : Value) (person day time : Int) (w : World) (h : SlE w w.heap.size v l) (hs : openE l person day time ≠ 0) :
    Calls Tryz.prog 40 #[v, .int .i64 person, .int .i64 day, .int .i64 time] w fun e w' => e = .returned (.tuple #[homeV 0 0 0, .int .i64 (openE l person day time)]) ∧ Below w.heap.size w w' := by
  have hop := fun (W : World) (hb : Below w.heap.size w W) => open_none l v person day time W ((h.below hb).mono hb.size) hs
  obtain ⟨E, hE⟩ : ∃ E, openE l person day time = E := ⟨_, rfl⟩
  rw [hE] at hop hs
  rw [hE]
  have HOP := Lib.hid hop
  have f0 : (E != 0) = true := bne_iff_ne.2 hs
  have hlay := two_new w (.cells #[.int .i64 person] 3) 30 [.int .i64 0, .int .i64 0, .int .i64 0]
  have HB := Lib.hid (((Below.refl w.heap.size w).alloc (Nat.le_refl _) (.cells #[.int .i64 person] 3)).alloc (by simp) (.cells #[.int .i64 0, .int .i64 0, .int .i64 0] 30))
  have HL := Lib.hid hlay
  clear hop hE h hs hlay
  go_enter Tryz.func40, Tryz.ntmps40
  go_wp2_with (go_at_call 52; (with_reducible refine (HOP.out _ HB.out).mono ?_); rintro e w1 ⟨rfl, hb1⟩; have r8 := (HL.out.below hb1 (by simp)).alloc (.cells #[.map none] 104); obtain ⟨m0, m1, m2⟩ := st3h r8; have ff := fun i => Row.frozen r8 i)
  exact bodyPost_ret (ret_where _ _ (w.heap.size + 1) 0 0 0 E rfl rfl (((r8.store 0 (.int .i64 0)).store 1 (.int .i64 0)).store 2 (.int .i64 0))) rfl ⟨rfl, (((((HB.out.trans (hb1.mono HB.out.size)).alloc (by have := hb1.size; simp at this; omega) _).setCell (p := ⟨w.heap.size + 1, 0, none⟩) (by simp) _).setCell (p := ⟨w.heap.size + 1, 1, none⟩) (by simp) _).setCell (p := ⟨w.heap.size + 1, 2, none⟩) (by simp) _)⟩

theorem where_end {w X : World} {Bd : Nat} {R : Int × Int × Int} (tmps : Array Value) (k q o : Int) (hR : R = (k, q, o)) (h8 : tmps[8]?.getD undef = .pointer (some ⟨w.heap.size + 1, 0, none⟩)) (h9 : tmps[9]?.getD undef = .int .i64 0)
    (hX : Below w.heap.size w X) (hr : Row X (w.heap.size + 1) 30 [.int .i64 0, .int .i64 0, .int .i64 0]) (hD : X.heap[Bd]? = some (.deferred (some []))) (hB : w.heap.size + 2 ≤ Bd) :
    bodyPostM Fence.wide 3 Tryz.prog Tryz.f40 (fun e w' => e = .returned (.tuple #[hv R, .int .i64 0]) ∧ Below w.heap.size w w') .ret { tmps := tmps, defers := [{ target := .collected Bd, args := #[] }] }
      (((X.setCell ⟨w.heap.size + 1, 0, none⟩ (.int .i64 k)).setCell ⟨w.heap.size + 1, 1, none⟩ (.int .i64 q)).setCell ⟨w.heap.size + 1, 2, none⟩ (.int .i64 o)) := by
  subst hR
  have hr2 := ((hr.store 0 (.int .i64 k)).store 1 (.int .i64 q)).store 2 (.int .i64 o)
  have hX2 := ((hX.setCell (p := ⟨w.heap.size + 1, 0, none⟩) (by simp) (.int .i64 k)).setCell (p := ⟨w.heap.size + 1, 1, none⟩) (by simp) (.int .i64 q)).setCell (p := ⟨w.heap.size + 1, 2, none⟩) (by simp) (.int .i64 o)
  have hD2 : (((X.setCell ⟨w.heap.size + 1, 0, none⟩ (.int .i64 k)).setCell ⟨w.heap.size + 1, 1, none⟩ (.int .i64 q)).setCell ⟨w.heap.size + 1, 2, none⟩ (.int .i64 o)).heap[Bd]? = some (.deferred (some [])) :=
    (Below.heap_setCell _ _ _ _ (by simp only []; omega)).trans ((Below.heap_setCell _ _ _ _ (by simp only []; omega)).trans ((Below.heap_setCell _ _ _ _ (by simp only []; omega)).trans hD))
  refine ⟨by simp, .inl ⟨_, _, rfl, run_takeDeferred hD2, ?_⟩⟩
  refine ⟨.tuple #[homeV k q o, .int .i64 0], ret_where _ _ (w.heap.size + 1) k q o 0 h8 h9 (hr2.keep (World.putObj_heap_other (by omega))), rfl, hX2.grown (grownBy_putObj' _ Bd (.deferred none)) hX2.size (fun r e => by have := Option.some.inj e; omega)⟩
set_option maxRecDepth 100000 in
set_option maxHeartbeats 4000000 in
theorem where_some (l : List En) (v : Value) (person day time : Int) (w : World) (h : SlE w w.heap.size v l) (hs : openE l person day time = 0) :
    Calls Tryz.prog 40 #[v, .int .i64 person, .int .i64 day, .int .i64 time] w fun e w' => e = .returned (.tuple #[hv (whereH l person day time), .int .i64 0]) ∧ Below w.heap.size w w' := by
  have e0 : whereH l person day time = whereD (deskL (standX l day time)) person (endL (standX l day time) person) := by unfold whereH; rw [if_pos hs]
  rw [e0]
  clear e0
  obtain ⟨LC, hch, hlast⟩ := chain_desk (standX l day time) person
  have hop := fun (W : World) (hb : Below w.heap.size w W) => open_some l v person day time W ((h.below hb).mono hb.size) hs
  obtain ⟨D, hD⟩ : ∃ D, deskL (standX l day time) = D := ⟨_, rfl⟩
  obtain ⟨Q, hQ⟩ : ∃ Q, endL (standX l day time) person = Q := ⟨_, rfl⟩
  rw [hD] at hch hop
  rw [hQ] at hlast
  rw [hD, hQ]
  obtain ⟨R, hR⟩ : ∃ R, whereD D person Q = R := ⟨_, rfl⟩
  rw [hR]
  have HR := Lib.hid hR
  clear hR
  have HOP := Lib.hid hop
  have HCH := Lib.hid hch
  have HLA := Lib.hid hlast
  have hlay := two_new w (.cells #[.int .i64 person] 3) 30 [.int .i64 0, .int .i64 0, .int .i64 0]
  have hlay5 := (Boxed.new w 3 (.int .i64 person)).alloc (.cells #[.int .i64 0, .int .i64 0, .int .i64 0] 30)
  have HB := Lib.hid (((Below.refl w.heap.size w).alloc (Nat.le_refl _) (.cells #[.int .i64 person] 3)).alloc (by simp) (.cells #[.int .i64 0, .int .i64 0, .int .i64 0] 30))
  have HL := Lib.hid hlay
  have HL5 := Lib.hid hlay5
  have hask := asked_any
  have HA := Lib.hid hask
  clear hop hch hlast hD hQ h hs hlay hlay5 hask
  refine (callsIn_wide (n := 3)).1 ?_
  refine callsIn_of_wp_marks Tryz.func40 rfl trivial ?_ rfl
  simp only [Tryz.ntmps40, List.size_toArray, List.length_cons, List.length_nil, Nat.reduceAdd, Nat.reduceSub, Array.replicate_succ, Array.replicate_zero, List.push_toArray, List.append_toArray, List.nil_append, List.cons_append]
  gi_wp2_with (first
    | (refine ⟨trivial, ?_⟩; gi_at_call 52; refine (callsIn_wide.2 (HOP.out _ HB.out)).mono ?_; rintro e w1 ⟨⟨bd, rfl, hdk⟩, hb1⟩; have hz1 := hb1.size; simp at hz1; have r8 := (HL.out.below hb1 (by simp)).alloc (.cells #[.map (some bd)] 104); have p5 : Boxed (w1.alloc (.cells #[.map (some bd)] 104)) w.heap.size 3 (.int .i64 person) := Boxed.alloc ((hb1.block _ (by simp; omega)).trans HL5.out) _; have p10 := Boxed.new w1 104 (.map (some bd)); have c5 := p5.cell; have c5b := ((p5.alloc (.cells #[.int .i64 person] 3)).alloc (.cells #[.bool false] 4)).cell; have HDK := Lib.hid hdk; clear hdk)
    | (refine ⟨trivial, ?_⟩; gi_at_call 53; refine (callsIn_wide.2 (HA.out _ _ _)).mono ?_; rintro e w2 ⟨rfl, rfl⟩))
  obtain ⟨W0, hW0⟩ : ∃ W0 : World, ((((w1.alloc (.cells #[.map (some bd)] 104)).alloc (.cells #[.int .i64 person] 3)).alloc (.cells #[.bool false] 4)).alloc (.cells #[.map (some bd)] 104)).alloc (.cells #[.int .i64 person] 3) = W0 := ⟨_, rfl⟩
  have hz : W0.heap.size = w1.heap.size + 5 := by rw [← hW0]; simp
  have k11 : Boxed W0 (w1.heap.size + 1) 3 (.int .i64 person) := by
    rw [← hW0]; have := Boxed.new (w1.alloc (.cells #[.map (some bd)] 104)) 3 (.int .i64 person); rw [World.size_alloc] at this; exact ((this.alloc _).alloc _).alloc _
  have k12 : Boxed W0 (w1.heap.size + 1 + 1) 4 (.bool false) := by
    rw [← hW0]; have := Boxed.new ((w1.alloc (.cells #[.map (some bd)] 104)).alloc (.cells #[.int .i64 person] 3)) 4 (.bool false); rw [World.size_alloc, World.size_alloc] at this; exact (this.alloc _).alloc _
  have kx : Boxed W0 (w1.heap.size + 1 + 1 + 1) 104 (.map (some bd)) := by
    rw [← hW0]; have := Boxed.new (((w1.alloc (.cells #[.map (some bd)] 104)).alloc (.cells #[.int .i64 person] 3)).alloc (.cells #[.bool false] 4)) 104 (.map (some bd)); rw [World.size_alloc, World.size_alloc, World.size_alloc] at this; exact this.alloc _
  have kp : Boxed W0 (w1.heap.size + 1 + 1 + 1 + 1) 3 (.int .i64 person) := by
    rw [← hW0]; have := Boxed.new ((((w1.alloc (.cells #[.map (some bd)] 104)).alloc (.cells #[.int .i64 person] 3)).alloc (.cells #[.bool false] 4)).alloc (.cells #[.map (some bd)] 104)) 3 (.int .i64 person); rw [World.size_alloc, World.size_alloc, World.size_alloc, World.size_alloc] at this; exact this
  have k10 : Boxed W0 w1.heap.size 104 (.map (some bd)) := by rw [← hW0]; exact (((p10.alloc _).alloc _).alloc _).alloc _
  have hBW : Below w1.heap.size w1 W0 := by rw [← hW0]; exact ((((((Below.refl _ _).alloc (Nat.le_refl _) _).alloc (by simp) _).alloc (by simp; omega) _).alloc (by simp; omega) _).alloc (by simp; omega) _)
  have r8w : Row w1 (w.heap.size + 1) 30 [.int .i64 0, .int .i64 0, .int .i64 0] := HL.out.below hb1 (by simp)
  have p5w : Boxed w1 w.heap.size 3 (.int .i64 person) := (hb1.block _ (by simp; omega)).trans HL5.out
  have hBw : Below w.heap.size w w1 := HB.out.trans (hb1.mono HB.out.size)
  rw [hW0]
  clear hW0 p10 p5 r8 c5 c5b hb1 HB HL HL5 HA HOP
  obtain ⟨base, hbase⟩ : ∃ base, ((w.alloc (.cells #[.int .i64 person] 3)).alloc (.cells #[.int .i64 0, .int .i64 0, .int .i64 0] 30)).heap.size = base := ⟨_, rfl⟩
  rw [hbase] at HDK
  clear hbase
  have hseq := asked_seq base D person LC HCH.out (w1.heap.size + 1 + 1 + 1 + 1) (w1.heap.size + 1 + 1 + 1) bd w1.heap.size (W0.heap.size + 2) (by omega) 2 (by omega)
  refine wpIn_rangeL (w := W0) rfl (by omega) (gf := 111) (lb := #[.pointer (some ⟨w1.heap.size + 1 + 1 + 1 + 1, 0, none⟩), .pointer (some ⟨w1.heap.size + 1 + 1 + 1, 0, none⟩)]) rfl trivial (enters_of Tryz.func111 (by kernel_rfl) rfl)
    hseq
    (fun W hW => ⟨(hW.block _ (by omega)).trans kp, (hW.block _ (by omega)).trans kx, w1, Nat.le_refl _, HDK.out, hBW.trans (hW.mono (by omega))⟩) (by omega) (by omega) (by omega)
    (fun v hv => by obtain ⟨p, _, rfl⟩ := List.mem_map.1 hv; rfl)
    (fun j W => Boxed W (w1.heap.size + 1) 3 (.int .i64 (lastQ person LC j).1) ∧ Boxed W (w1.heap.size + 1 + 1) 4 (.bool (lastQ person LC j).2) ∧ Boxed W w1.heap.size 104 (.map (some bd)) ∧ Below w1.heap.size w1 W)
    (fun cd j W => False)
    (fun j W W' row hs hg hr => by
      have hr' : ∀ r, row = some r → r = w1.heap.size + 1 + 1 + 1 + 1 ∨ W0.heap.size + 1 ≤ r := fun r e => by rcases hr r e with (h | h) | h <;> omega
      exact ⟨hs.1.kept hg (fun e => by have := hr' _ e.symm; omega), hs.2.1.kept hg (fun e => by have := hr' _ e.symm; omega), hs.2.2.1.kept hg (fun e => by have := hr' _ e.symm; omega), hs.2.2.2.grown hg hs.2.2.2.size (fun r e => by have := hr' _ e; omega)⟩)
    (fun cd j W W' row h hg hr => h)
    ⟨k11, k12, k10, hBW⟩
    (fun j a' W => ∃ q, LC[j]? = some q ∧ a' = { tmps := #[v, Value.int IntKind.i64 person, Value.int IntKind.i64 day, Value.int IntKind.i64 time, undef, Value.pointer (some { block := w.heap.size, off := 0 }), undef, undef, Value.pointer (some { block := w.heap.size + 1, off := 0 }), Value.int IntKind.i64 0, Value.pointer (some { block := w1.heap.size, off := 0 }), Value.pointer (some { block := w1.heap.size + 1, off := 0 }), Value.pointer (some { block := w1.heap.size + 1 + 1, off := 0 }), Value.int IntKind.i64 q.1, Value.bool q.2, undef, undef, undef, Value.tuple #[Value.map (some bd), Value.int IntKind.i64 0], v, Value.int IntKind.i64 person, Value.int IntKind.i64 day, Value.int IntKind.i64 time, Value.tuple #[Value.map (some bd), Value.int IntKind.i64 0], Value.map (some bd), Value.int IntKind.i64 0, Value.int IntKind.i64 0, Value.bool false, undef, undef, Value.int IntKind.i64 person, Value.map (some bd), Value.int IntKind.i64 person, Value.func (Fn.func 111) #[] #[Value.pointer (some { block := w1.heap.size + 1 + 1 + 1 + 1, off := 0 }), Value.pointer (some { block := w1.heap.size + 1 + 1 + 1, off := 0 })], Value.int IntKind.i64 q.1, Value.bool q.2, undef, undef, undef, undef, undef, undef, undef, undef, undef, undef, undef, undef, undef, undef, undef, undef, undef, undef, undef, undef, undef, undef, undef, undef, undef, undef, undef], defers := [] })
    (fun j a' _ W W' row h hg hr => h) ?assign ?body ?done ?stop
  case assign =>
    rintro L j v W K hI hv hsz hK
    rw [List.getElem?_map] at hv
    obtain ⟨q, hq, rfl⟩ := Option.map_eq_some_iff.1 hv
    clear hv
    have HI := Lib.hid hI
    clear hI
    unfold askV
    gi_wp2
    exact hK _ _ (Kept.refl _ _) (SameOn.refl _ _) HI.out ⟨q, hq, rfl⟩
  case body =>
    rintro L j v a' W ⟨i1, i2, i3, i4⟩ ⟨q, hq, rfl⟩ hv hsz
    have c1 := i1.cell
    have c2 := i1.frozen
    have c3 := (i2.other (B' := w1.heap.size + 1) (by omega) (.int .i64 q.1)).cell
    have c4 := (i2.other (B' := w1.heap.size + 1) (by omega) (.int .i64 q.1)).frozen
    have I1 := Lib.hid i1
    have I2 := Lib.hid i2
    have HQ := Lib.hid hq
    clear hq hv i1 i2
    gi_wp2
    refine ⟨(Kept.setCell _ _ (by simp only []; omega) (by simp only []; omega)).trans (Kept.setCell _ _ (by simp only []; omega) (by simp only []; omega)), ?_, ?_, ?_, ?_, ?_⟩
    · intro r hr
      refine (Below.heap_setCell _ _ _ r ?_).trans (Below.heap_setCell _ _ _ r ?_)
      · rcases hr with h | h | h | h <;> simp only [] <;> omega
      · rcases hr with h | h | h | h <;> simp only [] <;> omega
    · rw [lastQ_succ person HQ.out]
      exact (I1.out.set (.int .i64 q.1)).other (B' := w1.heap.size + 1 + 1) (by omega) (.bool q.2)
    · rw [lastQ_succ person HQ.out]
      exact (I2.out.other (B' := w1.heap.size + 1) (by omega) (.int .i64 q.1)).set (.bool q.2)
    · exact (i3.other (B' := w1.heap.size + 1) (by omega) (.int .i64 q.1)).other (B' := w1.heap.size + 1 + 1) (by omega) (.bool q.2)
    · exact (i4.setCell (p := ⟨w1.heap.size + 1, 0, none⟩) (by simp) _).setCell (p := ⟨w1.heap.size + 1 + 1, 0, none⟩) (by simp; omega) _
  case done =>
    rintro W ⟨i1, i2, i3, i4⟩ hsz hD
    rw [List.length_map, lastQ_all person HLA.out] at i1 i2
    rw [hz] at hD
    clear hseq k11 k12 kx kp k10 hBW
    obtain ⟨qp, qc⟩ := Q
    have hK : ∀ X : World, Below W.heap.size W X → Boxed X (w1.heap.size + 1 + 1) 4 (.bool qc) ∧ Boxed X w.heap.size 3 (.int .i64 person) ∧ Boxed X (w1.heap.size + 1) 3 (.int .i64 qp) ∧ Boxed X w1.heap.size 104 (.map (some bd)) ∧ DeskK base X bd D ∧
        Row X (w.heap.size + 1) 30 [.int .i64 0, .int .i64 0, .int .i64 0] ∧ Below w.heap.size w X ∧ X.heap[w1.heap.size + 5]? = some (.deferred (some [])) := fun X hX => by
      have hX1 : Below w1.heap.size w1 X := i4.trans (hX.mono (by omega))
      exact ⟨(hX.block _ i2.lt).trans i2, (hX1.block _ (by omega)).trans p5w, (hX.block _ i1.lt).trans i1, (hX.block _ i3.lt).trans i3, HDK.out.below hX1, r8w.below hX1 (by omega), hBw.trans (hX1.mono (by omega)), (hX.block _ (by omega)).trans hD⟩
    have hzW : w1.heap.size + 5 + 2 ≤ W.heap.size := by omega
    have b15 := Boxed.new W 101 (saysV w1.heap.size (w1.heap.size + 1))
    have rT := two_new W (.cells #[saysV w1.heap.size (w1.heap.size + 1)] 101) 149 [.func (.func 95) #[] #[.pointer (some ⟨w1.heap.size + 1 + 1, 0, none⟩)], .func (.func 96) #[] #[.pointer (some ⟨w.heap.size, 0, none⟩)], .func (.func 97) #[] #[.pointer (some ⟨W.heap.size, 0, none⟩)], .func (.func 98) #[] #[.pointer (some ⟨w1.heap.size + 1, 0, none⟩)], .func (.func 99) #[] #[.pointer (some ⟨W.heap.size, 0, none⟩)], .func (.func 100) #[] #[.pointer (some ⟨w1.heap.size + 1, 0, none⟩), .pointer (some ⟨w1.heap.size, 0, none⟩)]]
    have hBT : Below W.heap.size W ((W.alloc (.cells #[saysV w1.heap.size (w1.heap.size + 1)] 101)).alloc (.cells #[.func (.func 95) #[] #[.pointer (some ⟨w1.heap.size + 1 + 1, 0, none⟩)], .func (.func 96) #[] #[.pointer (some ⟨w.heap.size, 0, none⟩)], .func (.func 97) #[] #[.pointer (some ⟨W.heap.size, 0, none⟩)], .func (.func 98) #[] #[.pointer (some ⟨w1.heap.size + 1, 0, none⟩)], .func (.func 99) #[] #[.pointer (some ⟨W.heap.size, 0, none⟩)], .func (.func 100) #[] #[.pointer (some ⟨w1.heap.size + 1, 0, none⟩), .pointer (some ⟨w1.heap.size, 0, none⟩)]] 149)) := ((Below.refl _ _).alloc (Nat.le_refl _) _).alloc (by simp) _
    have b15' := b15.alloc (.cells #[.func (.func 95) #[] #[.pointer (some ⟨w1.heap.size + 1 + 1, 0, none⟩)], .func (.func 96) #[] #[.pointer (some ⟨w.heap.size, 0, none⟩)], .func (.func 97) #[] #[.pointer (some ⟨W.heap.size, 0, none⟩)], .func (.func 98) #[] #[.pointer (some ⟨w1.heap.size + 1, 0, none⟩)], .func (.func 99) #[] #[.pointer (some ⟨W.heap.size, 0, none⟩)], .func (.func 100) #[] #[.pointer (some ⟨w1.heap.size + 1, 0, none⟩), .pointer (some ⟨w1.heap.size, 0, none⟩)]] 149)
    clear i1 i2 i3 i4 hD p5w r8w hBw b15
    gi_wp2
    obtain ⟨WT, hWT⟩ : ∃ WT : World, (W.alloc (.cells #[saysV w1.heap.size (w1.heap.size + 1)] 101)).alloc (.cells #[.func (.func 95) #[] #[.pointer (some ⟨w1.heap.size + 1 + 1, 0, none⟩)], .func (.func 96) #[] #[.pointer (some ⟨w.heap.size, 0, none⟩)], .func (.func 97) #[] #[.pointer (some ⟨W.heap.size, 0, none⟩)], .func (.func 98) #[] #[.pointer (some ⟨w1.heap.size + 1, 0, none⟩)], .func (.func 99) #[] #[.pointer (some ⟨W.heap.size, 0, none⟩)], .func (.func 100) #[] #[.pointer (some ⟨w1.heap.size + 1, 0, none⟩), .pointer (some ⟨w1.heap.size, 0, none⟩)]] 149) = WT := ⟨_, rfl⟩
    replace rT : Row WT (W.heap.size + 1) 149 [.func (.func 95) #[] #[.pointer (some ⟨w1.heap.size + 1 + 1, 0, none⟩)], .func (.func 96) #[] #[.pointer (some ⟨w.heap.size, 0, none⟩)], .func (.func 97) #[] #[.pointer (some ⟨W.heap.size, 0, none⟩)], .func (.func 98) #[] #[.pointer (some ⟨w1.heap.size + 1, 0, none⟩)], .func (.func 99) #[] #[.pointer (some ⟨W.heap.size, 0, none⟩)], .func (.func 100) #[] #[.pointer (some ⟨w1.heap.size + 1, 0, none⟩), .pointer (some ⟨w1.heap.size, 0, none⟩)]] := hWT ▸ rT
    rw [hWT] at hBT b15' ⊢
    have hzT : WT.heap.size = W.heap.size + 2 := by rw [← hWT]; simp
    clear hWT
    have hK2 := fun (X : World) (hX : Below WT.heap.size WT X) => hK X (hBT.trans (hX.mono (by omega)))
    have hb15 := fun (X : World) (hX : Below WT.heap.size WT X) => (show Boxed X W.heap.size 101 (saysV w1.heap.size (w1.heap.size + 1)) from (hX.block _ b15'.lt).trans b15')
    have k2 := fun (X : World) (hX : Below WT.heap.size WT X) => wh2_any (w1.heap.size + 1 + 1) qc X (hK2 X hX).1
    have k3 := fun (X : World) (hX : Below WT.heap.size WT X) => wh3_any w.heap.size person X (hK2 X hX).2.1
    have k5 := fun (X : World) (hX : Below WT.heap.size WT X) => wh5_any (w1.heap.size + 1) qp X (hK2 X hX).2.2.1
    have k4 := fun (X : World) (hX : Below WT.heap.size WT X) => wh4_any base bd w1.heap.size (w1.heap.size + 1) W.heap.size D qp X (hK2 X hX).2.2.2.1 (hK2 X hX).2.2.1 (hb15 X hX) (hK2 X hX).2.2.2.2.1
    have k6 := fun (X : World) (hX : Below WT.heap.size WT X) => wh6_any base bd w1.heap.size (w1.heap.size + 1) W.heap.size D qp X (hK2 X hX).2.2.2.1 (hK2 X hX).2.2.1 (hb15 X hX) (hK2 X hX).2.2.2.2.1
    have k7 := fun (X : World) (hX : Below WT.heap.size WT X) => wh7_any base bd w1.heap.size (w1.heap.size + 1) D qp X (hK2 X hX).2.2.2.1 (hK2 X hX).2.2.1 (hK2 X hX).2.2.2.2.1
    have hR := HR.out
    unfold whereD at hR
    obtain ⟨s34, h34⟩ : ∃ s, ((D 3 qp).isSome || (D 4 qp).isSome) = s := ⟨_, rfl⟩
    obtain ⟨s1, h1⟩ : ∃ s, (D 1 qp).isSome = s := ⟨_, rfl⟩
    obtain ⟨o, ho⟩ : ∃ o, ((D 1 qp).getD zeroE).b = o := ⟨_, rfl⟩
    simp only [h34, h1, ho] at hR
    rw [h34] at k4
    rw [h1] at k6
    rw [ho] at k7
    clear h34 h1 ho HR
    have HR := Lib.hid hR
    clear hR
    have K2 := Lib.hid k2
    have K3 := Lib.hid k3
    have K4 := Lib.hid k4
    have K5 := Lib.hid k5
    have K6 := Lib.hid k6
    have K7 := Lib.hid k7
    have HK2 := Lib.hid hK2
    clear k2 k3 k4 k5 k6 k7 hK hK2 hb15 b15' hBT
    obtain ⟨m0, m1, m2, m3, m4, m5⟩ : (WT.cell? ⟨W.heap.size + 1, 0, none⟩ = some (.func (.func 95) #[] #[.pointer (some ⟨w1.heap.size + 1 + 1, 0, none⟩)]) ∧ WT.cell? ⟨W.heap.size + 1, 1, none⟩ = some (.func (.func 96) #[] #[.pointer (some ⟨w.heap.size, 0, none⟩)]) ∧ WT.cell? ⟨W.heap.size + 1, 2, none⟩ = some (.func (.func 97) #[] #[.pointer (some ⟨W.heap.size, 0, none⟩)]) ∧ WT.cell? ⟨W.heap.size + 1, 3, none⟩ = some (.func (.func 98) #[] #[.pointer (some ⟨w1.heap.size + 1, 0, none⟩)]) ∧ WT.cell? ⟨W.heap.size + 1, 4, none⟩ = some (.func (.func 99) #[] #[.pointer (some ⟨W.heap.size, 0, none⟩)]) ∧ WT.cell? ⟨W.heap.size + 1, 5, none⟩ = some (.func (.func 100) #[] #[.pointer (some ⟨w1.heap.size + 1, 0, none⟩), .pointer (some ⟨w1.heap.size, 0, none⟩)])) := ⟨rT.cell 0, rT.cell 1, rT.cell 2, rT.cell 3, rT.cell 4, rT.cell 5⟩
    have hB1 := (Below.refl WT.heap.size WT).alloc (Nat.le_refl _) (.cells #[(.func (.func 95) #[] #[.pointer (some ⟨w1.heap.size + 1 + 1, 0, none⟩)]), (.func (.func 96) #[] #[.pointer (some ⟨w.heap.size, 0, none⟩)])] 149)
    have HRT := Lib.hid rT
    refine wpIn_wide.2 ?_
    refine wp_loop_rounds 4 ?_
    cases qc with
    | true =>
      have HR2 := Lib.hid (HR.out.symm.trans (if_pos rfl))
      rw [rounds_succ]
      go_wp2_with (first
        | (go_at_call 95; (with_reducible refine (K2.out _ hB1).mono ?_); rintro e X ⟨rfl, rfl⟩)
        | (go_at_call 96; (with_reducible refine (K3.out _ hB1).mono ?_); rintro e X ⟨rfl, hb2⟩; have hX := hB1.trans (hb2.mono hB1.size); obtain ⟨_, _, _, _, _, r8, hBX, hDX⟩ := HK2.out X hX; obtain ⟨n0, n1, n2⟩ := st3h r8; have ff := fun i => Row.frozen r8 i))
      exact where_end _ 2 person 0 HR2.out rfl rfl hBX r8 hDX (by omega)
    | false =>
      have HR1 := Lib.hid (HR.out.symm.trans (if_neg (by decide)))
      have q2 := (HRT.out.alloc (.cells #[.func (.func 95) #[] #[.pointer (some ⟨w1.heap.size + 1 + 1, 0, none⟩)], .func (.func 96) #[] #[.pointer (some ⟨w.heap.size, 0, none⟩)]] 149)).cell 2
      have q3 := (HRT.out.alloc (.cells #[.func (.func 95) #[] #[.pointer (some ⟨w1.heap.size + 1 + 1, 0, none⟩)], .func (.func 96) #[] #[.pointer (some ⟨w.heap.size, 0, none⟩)]] 149)).cell 3
      simp only [List.getElem?_cons_succ, List.getElem?_cons_zero] at q2 q3
      have hB2 := hB1.alloc hB1.size (.cells #[.func (.func 97) #[] #[.pointer (some ⟨W.heap.size, 0, none⟩)], .func (.func 98) #[] #[.pointer (some ⟨w1.heap.size + 1, 0, none⟩)]] 149)
      have rp2 := Row.new (WT.alloc (.cells #[.func (.func 95) #[] #[.pointer (some ⟨w1.heap.size + 1 + 1, 0, none⟩)], .func (.func 96) #[] #[.pointer (some ⟨w.heap.size, 0, none⟩)]] 149)) 149 [(.func (.func 97) #[] #[.pointer (some ⟨W.heap.size, 0, none⟩)]), (.func (.func 98) #[] #[.pointer (some ⟨w1.heap.size + 1, 0, none⟩)])]
      have rt2 := (HRT.out.alloc (.cells #[.func (.func 95) #[] #[.pointer (some ⟨w1.heap.size + 1 + 1, 0, none⟩)], .func (.func 96) #[] #[.pointer (some ⟨w.heap.size, 0, none⟩)]] 149)).alloc (.cells #[.func (.func 97) #[] #[.pointer (some ⟨W.heap.size, 0, none⟩)], .func (.func 98) #[] #[.pointer (some ⟨w1.heap.size + 1, 0, none⟩)]] 149)
      have HP2 := Lib.hid rp2
      have HT2 := Lib.hid rt2
      clear rp2 rt2
      cases s34 with
      | true =>
        have HR2 := Lib.hid (HR1.out.trans (if_pos rfl))
        rw [rounds_succ]
        go_wp2_with (go_at_call 95; (with_reducible refine (K2.out _ hB1).mono ?_); rintro e X ⟨rfl, rfl⟩)
        rw [rounds_succ]
        go_wp2_with (first
          | (go_at_call 97; (with_reducible refine (K4.out _ hB2).mono ?_); rintro e X ⟨rfl, hb2⟩; have hX := hB2.trans (hb2.mono hB2.size); have r2 := HP2.out.below hb2 (by simp); have r2c := r2.cell 1; simp only [List.getElem?_cons_succ, List.getElem?_cons_zero, World.size_alloc] at r2c; rw [hzT] at r2c)
          | (go_at_call 98; (with_reducible refine (K5.out _ hX).mono ?_); rintro e X3 ⟨rfl, hb3⟩; have hX3 := hX.trans (hb3.mono hX.size); obtain ⟨_, _, _, _, _, r8, hBX, hDX⟩ := HK2.out X3 hX3; obtain ⟨n0, n1, n2⟩ := st3h r8; have ff := fun i => Row.frozen r8 i))
        exact where_end _ 3 qp 0 HR2.out rfl rfl hBX r8 hDX (by omega)
      | false =>
        have HR2 := Lib.hid (HR1.out.trans (if_neg (by decide)))
        rw [rounds_succ]
        go_wp2_with (go_at_call 95; (with_reducible refine (K2.out _ hB1).mono ?_); rintro e X ⟨rfl, rfl⟩)
        rw [rounds_succ]
        go_wp2_with (go_at_call 97; (with_reducible refine (K4.out _ hB2).mono ?_); rintro e X ⟨rfl, hb2⟩; have hX := hB2.trans (hb2.mono hB2.size); have t3 := HT2.out.below hb2 (by simp; omega); have q4 := t3.cell 4; have q5 := t3.cell 5; simp only [List.getElem?_cons_succ, List.getElem?_cons_zero] at q4 q5)
        have hB3 := hX.alloc hX.size (.cells #[.func (.func 99) #[] #[.pointer (some ⟨W.heap.size, 0, none⟩)], .func (.func 100) #[] #[.pointer (some ⟨w1.heap.size + 1, 0, none⟩), .pointer (some ⟨w1.heap.size, 0, none⟩)]] 149)
        have rp3 := Row.new X 149 [(.func (.func 99) #[] #[.pointer (some ⟨W.heap.size, 0, none⟩)]), (.func (.func 100) #[] #[.pointer (some ⟨w1.heap.size + 1, 0, none⟩), .pointer (some ⟨w1.heap.size, 0, none⟩)])]
        have HP3 := Lib.hid rp3
        clear rp3 t3
        cases s1 with
        | true =>
          have HR3 := Lib.hid (HR2.out.trans (if_pos rfl))
          rw [rounds_succ]
          go_wp2_with (first
            | (go_at_call 99; (with_reducible refine (K6.out _ hB3).mono ?_); rintro e X4 ⟨rfl, hb4⟩; have hX4 := hB3.trans (hb4.mono hB3.size); have r4 := HP3.out.below hb4 (by simp); have r4c := r4.cell 1; simp only [List.getElem?_cons_succ, List.getElem?_cons_zero] at r4c)
            | (go_at_call 100; (with_reducible refine (K7.out _ hX4).mono ?_); rintro e X3 ⟨rfl, hb3⟩; have hX3 := hX4.trans (hb3.mono hX4.size); obtain ⟨_, _, _, _, _, r8, hBX, hDX⟩ := HK2.out X3 hX3; obtain ⟨n0, n1, n2⟩ := st3h r8; have ff := fun i => Row.frozen r8 i))
          exact where_end _ 1 qp o HR3.out rfl rfl hBX r8 hDX (by omega)
        | false =>
          have HR3 := Lib.hid (HR2.out.trans (if_neg (by decide)))
          rw [rounds_succ]
          go_wp2_with (go_at_call 99; (with_reducible refine (K6.out _ hB3).mono ?_); rintro e X4 ⟨rfl, hb4⟩; have hX4 := hB3.trans (hb4.mono hB3.size); obtain ⟨_, _, p11, _, _, r8, hBX, hDX⟩ := HK2.out X4 hX4; obtain ⟨n0, n1, n2⟩ := st3h r8; have ff := fun i => Row.frozen r8 i; have c11 := p11.cell)
          rw [rounds_succ]
          go_wp2
          gi_wp2
          exact where_end _ 2 qp 0 HR3.out rfl rfl hBX r8 hDX (by omega)
  case stop => exact fun _ _ _ _ h => h.elim
theorem where_any (l : List En) (v : Value) (person day time : Int) (w : World) (h : SlE w w.heap.size v l) :
    Calls Tryz.prog 40 #[v, .int .i64 person, .int .i64 day, .int .i64 time] w fun e w' => e = .returned (.tuple #[hv (whereH l person day time), .int .i64 (openE l person day time)]) ∧ Below w.heap.size w w' := by
  by_cases hs : openE l person day time = 0
  · rw [hs]; exact where_some l v person day time w h hs
  · have e : whereH l person day time = (0, 0, 0) := by unfold whereH; rw [if_neg hs]
    rw [e]; exact where_none l v person day time w h hs
end Go.Proofs.YthckledagggoiaaGreatDoor
