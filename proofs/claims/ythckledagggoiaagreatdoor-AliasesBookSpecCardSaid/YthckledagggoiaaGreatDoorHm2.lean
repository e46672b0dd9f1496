import Derived.Test.YthckledagggoiaaGreatDoorHm1
set_option linter.unusedSimpArgs false
set_option linter.unusedVariables false
namespace Go.Proofs.YthckledagggoiaaGreatDoor
open Go.RowKit Go.MapKept Fk
/-! homes.open -/
def openE (l : List En) (person day time : Int) : Int := if stE l day time = 0 then (if idB person then 0 else 1) else stE l day time
theorem stE_len {l : List En} {day time : Int} (h : stE l day time = 0) : l.length ≤ 1024 := by
  unfold stE chkE at h
  by_cases h1 : 1024 < l.length
  · rw [if_pos h1] at h; simp at h
  · omega
theorem standX_len (l : List En) (day time : Int) : (standX l day time).length ≤ 1024 := by
  unfold standX
  split
  · rename_i h
    have := stE_len h
    unfold standL cntL
    exact Nat.le_trans (List.length_filter_le _ _) (Nat.le_trans (List.length_filter_le _ _) this)
  · simp
theorem takeSn {l : List En} {k : Nat} (h : k < l.length) : deskL (l.take (k + 1)) = upd2 (deskL (l.take k)) (l.getD k default).kind (l.getD k default).a (l.getD k default) := by
  rw [takeD h, deskL_snoc]
set_option maxRecDepth 100000 in
set_option maxHeartbeats 4000000 in
theorem open_good (l : List En) (v : Value) (person day time : Int) (w : World) (h : SlE w w.heap.size v l) (hs : stE l day time = 0) (hp : idB person = true) :
    Calls Tryz.prog 52 #[v, .int .i64 person, .int .i64 day, .int .i64 time] w fun e w' => (∃ bd, e = .returned (.tuple #[.map (some bd), .int .i64 0]) ∧ DeskK w.heap.size w' bd (deskL (standX l day time))) ∧ Below w.heap.size w w' := by
  have hst := stand_any l v day time w h
  rw [hs] at hst
  have HST := Lib.hid hst
  have hlen := standX_len l day time
  obtain ⟨X, hX⟩ : ∃ X, standX l day time = X := ⟨_, rfl⟩
  rw [hX] at HST hlen
  rw [hX]
  clear hst hs hX h
  unfold idB at hp
  simp only [Bool.and_eq_true, decide_eq_true_eq] at hp
  obtain ⟨p1, p2⟩ := hp
  have f1 : decide (person < 0) = false := decide_eq_false (by omega)
  have f2 : decide (1048576 < person) = false := decide_eq_false (by omega)
  have hmm := @run_makeMap Tryz.prog
  have he0 := eq_mapE none
  have he1 := fun q => eq_mapE (some q)
  rw [show (none : Option Nat).isNone = true from rfl] at he0
  simp only [Option.isNone_some] at he1
  go_enter Tryz.func52, Tryz.ntmps52
  go_wp2_with (go_at_call 76; (with_reducible refine HST.out.mono ?_); rintro e w1 ⟨⟨xv, rfl, hx⟩, hb1⟩; have HX := Lib.hid hx; obtain ⟨hl2, A2, c2, rfl, _⟩ := hx)
  have hz1 := hb1.size
  have HB1 := Lib.hid hb1
  clear hb1 f1 f2 p1 p2
  go_loopg [32] X.length (fun g iv wr => Below w1.heap.size w1 wr ∧ ∃ (k : Nat), iv = .int .i64 k ∧ k + g = X.length ∧ DeskK w1.heap.size wr w1.heap.size (deskL (X.take k)))
  case atStart => exact ⟨(Below.refl _ _).alloc (Nat.le_refl _) _, 0, rfl, by omega, DeskK.made _ w1 (Nat.le_refl _)⟩
  case round =>
    obtain ⟨hBr, k, rfl, hk, hh, HD⟩ := hrel
    by_cases hlt : k < X.length
    · obtain ⟨b, off, rfl, hb, d0, d1, d2, d3, d4, d5, d6, d7⟩ := entry_cells (HX.out.below hBr) hlt
      have htk := takeSn hlt
      obtain ⟨x, hx⟩ : ∃ x, X.getD k default = x := ⟨_, rfl⟩
      rw [hx] at d0 d1 d2 d3 d4 d5 d6 d7 htk
      have HT := Lib.hid htk
      have s1 : (0 : Int) ≤ k := by omega
      have s2 : (k : Int) < X.length := by omega
      have hzb : b < wr.heap.size := by have := hBr.size; omega
      have hzr := hBr.size
      have hBa := hBr.alloc hBr.size (.cells #[.int .i64 x.no, .int .i64 x.kind, .int .i64 x.a, .int .i64 x.b, .int .i64 x.from_, .int .i64 x.until_, .int .i64 x.known, .int .i64 x.gone] 49)
      have HD1 := HD.below ((Below.refl wr.heap.size wr).alloc (Nat.le_refl _) (.cells #[.int .i64 x.no, .int .i64 x.kind, .int .i64 x.a, .int .i64 x.b, .int .i64 x.from_, .int .i64 x.until_, .int .i64 x.known, .int .i64 x.gone] 49))
      have r0 := Row.new wr 49 [.int .i64 x.no, .int .i64 x.kind, .int .i64 x.a, .int .i64 x.b, .int .i64 x.from_, .int .i64 x.until_, .int .i64 x.known, .int .i64 x.gone]
      have l10 := HD1.see x.kind
      have hlo := HD.out.lt
      clear hx htk hBr
      cases hq : hh x.kind with
      | none =>
        rw [hq] at l10
        obtain ⟨w2, r2, HD2, B2, k2⟩ := HD1.new hq (by rw [World.size_alloc]; omega)
        have r1 : Row w2 wr.heap.size 49 [.int .i64 x.no, .int .i64 x.kind, .int .i64 x.a, .int .i64 x.b, .int .i64 x.from_, .int .i64 x.until_, .int .i64 x.known, .int .i64 x.gone] := r0.keep (k2 _ (by rw [World.size_alloc]; omega) (by omega))
        obtain ⟨n0, n1, n2, n3, n4, n5, n6, n7⟩ := st8e r1
        rw [World.size_alloc] at r2 HD2
        have hz2 := B2.size
        rw [World.size_alloc] at hz2
        have l12 := HD2.see x.kind
        have hup : updN hh x.kind (wr.heap.size + 1) x.kind = some (wr.heap.size + 1) := by unfold updN; rw [if_pos rfl]
        rw [hup] at l12
        obtain ⟨w3, r3, HD3, B3⟩ := HD2.put hup (by omega) x.a x
        unfold En.val at r3
        have HH := Lib.hid HD3
        have HB3 := Lib.hid ((hBa.trans B2).trans B3)
        clear HD HD1 HD2 HD3 k2 r0 r1 B2 B3 hup hBa
        go_wp2
        go_roundg (gk - 1)
        case measure => omega
        case rel => exact ⟨HB3.out, k + 1, by first | rfl | go_num, by omega, by rw [HT.out]; exact ⟨_, HH.out⟩⟩
      | some q =>
        rw [hq] at l10
        obtain ⟨w3, r3, HD3, B3⟩ := HD1.put hq (by rw [World.size_alloc]; omega) x.a x
        unfold En.val at r3
        have HH := Lib.hid HD3
        have HB3 := Lib.hid (hBa.trans B3)
        clear HD HD1 HD3 r0 B3 hBa
        go_wp2
        go_roundg (gk - 1)
        case measure => omega
        case rel => exact ⟨HB3.out, k + 1, by first | rfl | go_num, by omega, by rw [HT.out]; exact ⟨_, HH.out⟩⟩
    · obtain rfl : k = X.length := by omega
      rw [List.take_length] at HD
      have HH := Lib.hid HD
      clear HD
      go_wp2
      go_ret2
      exact ⟨⟨_, rfl, DeskK.mono ⟨hh, HH.out⟩ hz1⟩, HB1.out.trans (hBr.mono hz1)⟩
set_option maxRecDepth 100000 in
set_option maxHeartbeats 1000000 in
theorem open_bad (l : List En) (v : Value) (person day time : Int) (w : World) (h : SlE w w.heap.size v l) (hs : stE l day time ≠ 0) :
    Calls Tryz.prog 52 #[v, .int .i64 person, .int .i64 day, .int .i64 time] w fun e w' => e = .returned (.tuple #[.map none, .int .i64 (stE l day time)]) ∧ Below w.heap.size w w' := by
  have hst := stand_any l v day time w h
  obtain ⟨cc, hcc⟩ : ∃ cc, stE l day time = cc := ⟨_, rfl⟩
  rw [hcc] at hst hs
  rw [hcc]
  have HST := Lib.hid hst
  have f0 : decide (cc = 0) = false := decide_eq_false hs
  clear hst hcc h
  go_enter Tryz.func52, Tryz.ntmps52
  go_wp2_with (go_at_call 76; (with_reducible refine HST.out.mono ?_); rintro e w1 ⟨⟨xv, rfl, hx⟩, hb1⟩; clear hx)
  go_ret2
  exact ⟨rfl, hb1⟩
set_option maxRecDepth 100000 in
set_option maxHeartbeats 1000000 in
theorem open_arg (l : List En) (v : Value) (person day time : Int) (w : World) (h : SlE w w.heap.size v l) (hs : stE l day time = 0) (hp : idB person = false) :
    Calls Tryz.prog 52 #[v, .int .i64 person, .int .i64 day, .int .i64 time] w fun e w' => e = .returned (.tuple #[.map none, .int .i64 1]) ∧ Below w.heap.size w w' := by
  have hst := stand_any l v day time w h
  rw [hs] at hst
  have HST := Lib.hid hst
  clear hst h hs
  have hor : person < 0 ∨ ¬ person < 0 ∧ 1048576 < person := by
    unfold idB at hp
    by_cases h0 : person < 0
    · exact .inl h0
    · refine .inr ⟨h0, ?_⟩
      by_cases h1 : person ≤ 1048576
      · rw [decide_eq_true h1, decide_eq_true (show 0 ≤ person by omega)] at hp; cases hp
      · omega
  clear hp
  rcases hor with h0 | ⟨h0, h1⟩
  · have f1 : decide (person < 0) = true := decide_eq_true h0
    clear h0
    go_enter Tryz.func52, Tryz.ntmps52
    go_wp2_with (go_at_call 76; (with_reducible refine HST.out.mono ?_); rintro e w1 ⟨⟨xv, rfl, hx⟩, hb1⟩; clear hx)
    go_ret2
    exact ⟨rfl, hb1⟩
  · have f1 : decide (person < 0) = false := decide_eq_false h0
    have f2 : decide (1048576 < person) = true := decide_eq_true h1
    clear h0 h1
    go_enter Tryz.func52, Tryz.ntmps52
    go_wp2_with (go_at_call 76; (with_reducible refine HST.out.mono ?_); rintro e w1 ⟨⟨xv, rfl, hx⟩, hb1⟩; clear hx)
    go_ret2
    exact ⟨rfl, hb1⟩
theorem openE_0 {l : List En} {person day time : Int} (h1 : stE l day time = 0) (h2 : idB person = true) : openE l person day time = 0 := by unfold openE; rw [if_pos h1, if_pos h2]
theorem openE_1 {l : List En} {person day time : Int} (h1 : stE l day time = 0) (h2 : idB person = false) : openE l person day time = 1 := by unfold openE; rw [if_pos h1, h2]; rfl
theorem openE_s {l : List En} {person day time : Int} (h1 : stE l day time ≠ 0) : openE l person day time = stE l day time := by unfold openE; rw [if_neg h1]
theorem open_none (l : List En) (v : Value) (person day time : Int) (w : World) (h : SlE w w.heap.size v l) (hs : openE l person day time ≠ 0) :
    Calls Tryz.prog 52 #[v, .int .i64 person, .int .i64 day, .int .i64 time] w fun e w' => e = .returned (.tuple #[.map none, .int .i64 (openE l person day time)]) ∧ Below w.heap.size w w' := by
  by_cases h1 : stE l day time = 0
  · cases h2 : idB person with
    | true => exact absurd (openE_0 h1 h2) hs
    | false => rw [openE_1 h1 h2]; exact open_arg l v person day time w h h1 h2
  · rw [openE_s h1]; exact open_bad l v person day time w h h1
theorem open_some (l : List En) (v : Value) (person day time : Int) (w : World) (h : SlE w w.heap.size v l) (hs : openE l person day time = 0) :
    Calls Tryz.prog 52 #[v, .int .i64 person, .int .i64 day, .int .i64 time] w fun e w' => (∃ bd, e = .returned (.tuple #[.map (some bd), .int .i64 0]) ∧ DeskK w.heap.size w' bd (deskL (standX l day time))) ∧ Below w.heap.size w w' := by
  by_cases h1 : stE l day time = 0
  · cases h2 : idB person with
    | true => exact open_good l v person day time w h h1 h2
    | false => rw [openE_1 h1 h2] at hs; cases hs
  · rw [openE_s h1] at hs; exact absurd hs h1
end Go.Proofs.YthckledagggoiaaGreatDoor
