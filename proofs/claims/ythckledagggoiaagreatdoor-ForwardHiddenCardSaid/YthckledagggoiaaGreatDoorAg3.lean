import Derived.Test.YthckledagggoiaaGreatDoorAg2
import Derived.OwnWalkIn
set_option linter.unusedSimpArgs false
set_option linter.unusedVariables false
namespace Go.Proofs.YthckledagggoiaaGreatDoor
open Go.RowKit Go.MapKept Go.Shelf Fk
attribute [local go_sem] Oper.semAt_some
/-! homes.Agents. -/
set_option maxRecDepth 100000 in
set_option maxHeartbeats 1000000 in
theorem clip_any (g n cap : Nat) (hn : n ≤ cap) (w : World) : Calls Tryz.prog 54 #[.slice (some ⟨g, 0, none⟩) n cap] w fun e w' => e = .returned (.slice (some ⟨g, 0, none⟩) n n) ∧ w' = w := by
  have h1 : ¬ ((cap : Int) < (n : Int)) := by omega
  have h2 : (0 : Int) ≤ n := by omega
  have h3 : (n : Int) ≤ cap := by omega
  go_enter Tryz.func54, Tryz.ntmps54
  go_wp2
  go_ret
  exact ⟨rfl, rfl⟩
theorem chain_len {D : Int → Option En} {L : List Int} (hL : ∀ p x, D p = some x → p ∈ L) {p : Int} {met : List Int} {r : List (Int × Bool)} (h : Chain D p met r) : r.length ≤ 2 * left L met + (if p ∈ L then 1 else 0) + 1 := by
  induction h with
  | stop h1 => simp
  | circle h1 h2 => simp
  | @step p met x r h1 h2 _ ih =>
    rw [if_pos (hL p x h1), List.length_cons]
    by_cases hq : x.b ∈ L
    · have := left_lt hq h2
      rw [if_pos hq] at ih; omega
    · have := left_le L met x.b
      rw [if_neg hq] at ih; omega
theorem chain_max {l : List En} {day time person : Int} {r : List (Int × Bool)} (h : Chain (deskL (standX l day time) 2) person [person] r) : r.length ≤ 2050 := by
  have h1 := chain_len (L := (standX l day time).map (·.a)) (fun p x h => deskL_mem _ 2 p x h) h
  have h2 := left_len ((standX l day time).map (·.a)) [person]
  have h3 := standX_len l day time
  rw [List.length_map] at h2
  split at h1 <;> omega
def firsts (LC : List (Int × Bool)) (k : Nat) : List Int := (LC.take k).map (·.1)
theorem firsts_succ {LC : List (Int × Bool)} {k : Nat} {q : Int × Bool} (h : LC[k]? = some q) : (firsts LC (k + 1)).map (Value.int .i64) = (firsts LC k).map (Value.int .i64) ++ [.int .i64 q.1] := by
  unfold firsts
  rw [List.take_add_one, h, Option.toList_some, List.map_append, List.map_append]; rfl
theorem sl_clip {W : World} {B g n cap c : Nat} {l : List Int} (h : SlI W B (.slice (some ⟨g, 0, none⟩) n cap) l) : SlI W B (.slice (some ⟨g, 0, none⟩) n c) l := by
  obtain ⟨h1, A, c', hv, h2⟩ := h
  cases hv
  exact ⟨h1, _, c, rfl, h2⟩
theorem ret_agents (tmps : Array Value) (W : World) (g : Nat) (x : Value) (E : Int) (h8 : tmps[8]?.getD undef = .pointer (some ⟨g, 0, none⟩)) (h9 : tmps[9]?.getD undef = .int .i64 E) (hr : Boxed W g 25 x) :
    (results Tryz.f19 tmps).run Tryz.prog W = .ok (.tuple #[x, .int .i64 E]) W := by
  have c := hr.cell
  simp [results, Tryz.f19, go_sem, h8, h9, c]
theorem agents_end {l : List En} {person day time : Int} {LC : List (Int × Bool)} {w X : World} {m g cap Bd b2 : Nat} {tmps : Array Value} (hB : w.heap.size < b2 ∧ w.heap.size < Bd) (hch : Chain (deskL (standX l day time) 2) person [person] LC) (hm : LC.length = m + 1)
    (hD : X.heap[Bd]? = some (.deferred (some []))) (h1 : Boxed X w.heap.size 25 (.slice (some ⟨g, 0, none⟩) (m + 1) cap)) (h2 : X.ownsRow b2 3 1 (.slice (some ⟨g, 0, none⟩) (m + 1) cap) (m + 1) ((LC.map (·.1)).map (Value.int .i64))) (h3 : Below w.heap.size w X)
    (h8 : tmps[8]?.getD undef = .pointer (some ⟨w.heap.size, 0, none⟩)) (h9 : tmps[9]?.getD undef = .int .i64 0) :
    bodyPostM Fence.wide 3 Tryz.prog Tryz.f19 (fun e w' => ∃ x r, e = .returned (.tuple #[x, .int .i64 0]) ∧ Chain (deskL (standX l day time) 2) person [person] r ∧ SlI w' w'.heap.size x (r.map (·.1)) ∧ Below w.heap.size w w') .ret { tmps := tmps, defers := [{ target := .collected Bd, args := #[] }] }
      (X.setCell ⟨w.heap.size, 0, none⟩ (.slice (some ⟨g, 0, none⟩) (m + 1) (m + 1))) := by
  have hmax := chain_max hch
  have k1 := h1.set (.slice (some ⟨g, 0, none⟩) (m + 1) (m + 1))
  have k2 := ownsRow_setCell_below h2 (a := ⟨w.heap.size, 0, none⟩) (by simp only []; omega) (.slice (some ⟨g, 0, none⟩) (m + 1) (m + 1))
  have k3 := h3.setCell (p := ⟨w.heap.size, 0, none⟩) (Nat.le_refl _) (.slice (some ⟨g, 0, none⟩) (m + 1) (m + 1))
  have hD2 : (X.setCell ⟨w.heap.size, 0, none⟩ (.slice (some ⟨g, 0, none⟩) (m + 1) (m + 1))).heap[Bd]? = some (.deferred (some [])) := (Below.heap_setCell _ _ _ _ (by simp only []; omega)).trans hD
  refine ⟨by simp, .inl ⟨_, _, rfl, run_takeDeferred hD2, ?_⟩⟩
  have k4 := ownsRow_putObj k2 (.deferred none) hD2 rfl
  refine ⟨.tuple #[.slice (some ⟨g, 0, none⟩) (m + 1) (m + 1), .int .i64 0], ret_agents _ _ w.heap.size _ 0 h8 h9 ((World.putObj_heap_other (by omega)).trans k1), _, LC, rfl, hch, ?_, k3.grown (grownBy_putObj' _ Bd (.deferred none)) k3.size (fun r e => by have := Option.some.inj e; omega)⟩
  rw [← flatIF] at k4
  exact sl_clip (own_slG k4 (fun _ => rfl) (by rw [List.length_map, hm]) (by rw [List.length_map]; omega))
set_option maxRecDepth 100000 in
set_option maxHeartbeats 4000000 in
theorem agents_some (l : List En) (v : Value) (person day time : Int) (w : World) (h : SlE w w.heap.size v l) (hs : openE l person day time = 0) :
    Calls Tryz.prog 19 #[v, .int .i64 person, .int .i64 day, .int .i64 time] w fun e w' => ∃ x r, e = .returned (.tuple #[x, .int .i64 0]) ∧ Chain (deskL (standX l day time) 2) person [person] r ∧ SlI w' w'.heap.size x (r.map (·.1)) ∧ Below w.heap.size w w' := by
  obtain ⟨LC, hch, hlast⟩ := chain_desk (standX l day time) person
  have hop := fun (W : World) (hb : Below w.heap.size w W) => open_some l v person day time W ((h.below hb).mono hb.size) hs
  have HCC := Lib.hid hch
  have hmax := chain_max hch
  obtain ⟨D, hD⟩ : ∃ D, deskL (standX l day time) = D := ⟨_, rfl⟩
  rw [hD] at hch hop
  have HOP := Lib.hid hop
  have HCH := Lib.hid hch
  have HB := Lib.hid ((Below.refl w.heap.size w).alloc (Nat.le_refl _) (.cells #[.slice none 0 0] 25))
  have HL := Lib.hid (Boxed.new w 25 (.slice none 0 0))
  have hask := asked_any
  have HA := Lib.hid hask
  clear hop hch hlast hD h hs hask
  refine (callsIn_wide (n := 3)).1 ?_
  refine callsIn_of_wp_marks Tryz.func19 rfl trivial ?_ rfl
  simp only [Tryz.ntmps19, List.size_toArray, List.length_cons, List.length_nil, Nat.reduceAdd, Nat.reduceSub, Array.replicate_succ, Array.replicate_zero, List.push_toArray, List.append_toArray, List.nil_append, List.cons_append]
  gi_wp2_with (first
    | (refine ⟨trivial, ?_⟩; gi_at_call 52; refine (callsIn_wide.2 (HOP.out _ HB.out)).mono ?_; rintro e w1 ⟨⟨bd, rfl, hdk⟩, hb1⟩; have HDK := Lib.hid hdk; clear hdk)
    | (refine ⟨trivial, ?_⟩; gi_at_call 53; refine (callsIn_wide.2 (HA.out _ _ _)).mono ?_; rintro e w2 ⟨rfl, rfl⟩))
  obtain ⟨W0, hW0⟩ : ∃ W0 : World, (w1.alloc (.cells #[.map (some bd)] 104)).alloc (.cells #[.int .i64 person] 3) = W0 := ⟨_, rfl⟩
  have hz : W0.heap.size = w1.heap.size + 2 := by rw [← hW0]; simp
  have kx : Boxed W0 w1.heap.size 104 (.map (some bd)) := by rw [← hW0]; exact (Boxed.new w1 104 (.map (some bd))).alloc _
  have kp : Boxed W0 (w1.heap.size + 1) 3 (.int .i64 person) := by
    rw [← hW0]; have := Boxed.new (w1.alloc (.cells #[.map (some bd)] 104)) 3 (.int .i64 person); rw [World.size_alloc] at this; exact this
  have hBW : Below w1.heap.size w1 W0 := by rw [← hW0]; exact ((Below.refl _ _).alloc (Nat.le_refl _) _).alloc (by simp) _
  have hz1 := hb1.size
  rw [World.size_alloc] at hz1
  have k8 : Boxed W0 w.heap.size 25 (.slice none 0 0) := (hBW.block _ (by omega)).trans ((hb1.block _ (by simp)).trans HL.out)
  have hBw : Below w.heap.size w W0 := (HB.out.trans (hb1.mono HB.out.size)).trans (hBW.mono (by omega))
  rw [hW0]
  rw [World.size_alloc] at HDK
  clear hW0 hb1 HB HL HA HOP
  obtain ⟨i0, hi, hz0, hzz1, hz2⟩ := info_parts infoInF
  have hseq := asked_seqM (w.heap.size + 1) D person LC HCH.out (w1.heap.size + 1) w1.heap.size bd w1.heap.size (W0.heap.size + 2) (by omega) 2 (by omega)
  refine wpIn_rangeM (w := W0) rfl (by omega) (gf := 111) (lb := #[.pointer (some ⟨w1.heap.size + 1, 0, none⟩), .pointer (some ⟨w1.heap.size, 0, none⟩)]) rfl trivial (enters_of Tryz.func111 (by kernel_rfl) rfl)
    hseq
    (fun W hW => ⟨(hW.block _ (by omega)).trans kp, (hW.block _ (by omega)).trans kx, w1, Nat.le_refl _, HDK.out, hBW.trans (hW.mono (by omega))⟩) (by omega) (by omega) (by omega)
    (fun v hv => by obtain ⟨p, _, rfl⟩ := List.mem_map.1 hv; rfl)
    (fun W r => r = w.heap.size ∨ ∃ sv, W.cell? ⟨w.heap.size, 0, none⟩ = some sv ∧ sv.ownBlock = some r)
    (fun W o r h => ?zput)
    (fun j W => ∃ sv, Boxed W w.heap.size 25 sv ∧ W.ownsRow (w1.heap.size + 5) 3 1 sv j ((firsts LC j).map (Value.int .i64)) ∧ Below w.heap.size w W)
    (fun cd j W => False)
    (fun j W W' row hs hg hr => ?keeps)
    (fun cd j W W' row h hg hr => h)
    ⟨_, k8, World.ownsRow_nil _ _ _ _, hBw⟩
    (fun j W o r hI h => ?zall)
    (fun j W r hI h => ?zok)
    (fun j a' => ∃ q, LC[j]? = some q ∧ a' = { tmps := #[v, Value.int IntKind.i64 person, Value.int IntKind.i64 day, Value.int IntKind.i64 time, undef, undef, undef, undef, Value.pointer (some { block := w.heap.size, off := 0 }), Value.int IntKind.i64 0, Value.map (some bd), Value.int IntKind.i64 q.1, Value.tuple #[Value.map (some bd), Value.int IntKind.i64 0], v, Value.int IntKind.i64 person, Value.int IntKind.i64 day, Value.int IntKind.i64 time, Value.tuple #[Value.map (some bd), Value.int IntKind.i64 0], Value.map (some bd), Value.int IntKind.i64 0, Value.int IntKind.i64 0, Value.bool false, undef, Value.map (some bd), Value.int IntKind.i64 person, Value.func (Fn.func 111) #[]   #[Value.pointer (some { block := w1.heap.size + 1, off := 0 }),     Value.pointer (some { block := w1.heap.size, off := 0 })], Value.int IntKind.i64 q.1, Value.bool q.2, undef, undef, undef, undef, undef, undef], defers := [] }) ?assign ?body ?done ?stop
  case zput =>
    rcases h with h | ⟨sv, h1, h2⟩
    · exact .inl h
    · refine .inr ⟨sv, ?_, h2⟩
      have : (W.putObj (W0.heap.size + 1) o).heap[w.heap.size]? = W.heap[w.heap.size]? := World.putObj_heap_other (by omega)
      simpa only [World.cell?, this] using h1
  case keeps =>
    obtain ⟨sv, h1, h2, h3⟩ := hs
    have hr' : ∀ r, row = some r → r = w1.heap.size + 1 ∨ r = w1.heap.size + 4 ∨ r = w1.heap.size + 3 := fun r e => by rcases hr r e with (h | h) | h <;> omega
    refine ⟨sv, h1.kept hg (fun e => by have := hr' _ e.symm; omega), h2.kept hg ?_, h3.grown hg h3.size (fun r e => by have := hr' _ e; omega)⟩
    cases ho : sv.ownBlock with
    | none => exact .inl rfl
    | some g =>
      refine .inr fun e => ?_
      have := hr' _ e.symm
      have := (h2.lt g ho).1
      omega
  case zall =>
    obtain ⟨sv, h1, h2, h3⟩ := hI
    rcases h with h | ⟨sv', h4, h5⟩
    · exact .inl h
    · rw [(h1.alloc o).cell] at h4
      cases h4
      exact .inr ⟨sv, h1.cell, h5⟩
  case zok =>
    obtain ⟨sv, h1, h2, h3⟩ := hI
    rcases h with h | ⟨sv', h4, h5⟩
    · subst h
      exact ⟨by omega, h1.lt⟩
    · rw [h1.cell] at h4
      cases h4
      have := h2.lt r h5
      exact ⟨by omega, this.2⟩
  case assign =>
    rintro L j v W K hI hv hsz hK
    rw [List.getElem?_map] at hv
    obtain ⟨q, hq, rfl⟩ := Option.map_eq_some_iff.1 hv
    clear hv hI
    unfold askV
    gi_wp2
  case body =>
    rintro L j v a' W ⟨sv, i1, i2, i3⟩ ⟨q, hq, rfl⟩ hv hsz
    have c1 := i1.cell
    have hjl : j < LC.length := (List.getElem?_eq_some_iff.1 hq).1
    have htk := firsts_succ hq
    have HTK := Lib.hid htk
    have hne : ∀ x : Nat, x < w1.heap.size + 5 → some x ≠ sv.ownBlock := fun x hx e => by have := (i2.lt x e.symm).1; omega
    have NE := Lib.hid (fun (_ : Unit) => hne w.heap.size (by omega))
    have NEE := Lib.hid hne
    have I1 := Lib.hid i1
    have I2 := Lib.hid i2
    have I3 := Lib.hid i3
    clear hq hv i1 i2 i3 htk hseq k8 kx kp hBW hBw HDK HCH hne
    obtain ⟨so, rfl⟩ : ∃ so : Value, so = sv := ⟨_, rfl⟩
    dsimp only
    gi_wp2_with ((refine wpListIn_append_own _ rfl _ _ 25 rfl (w1.heap.size + 5) 3 i0 (.int .i64 0) 1 8 Tryz.underlying25 hi hz0 hzz1 hz2 rfl (by decide) _ _ _ rfl (I2.out.alloc _) ⟨W.heap.size, 0, none⟩ 1 1 [.int .i64 q.1] rfl rfl (cells_new W 3 [.int .i64 q.1]) (by simp [Value.oneCell']) (by unfold maxLen; omega) (by omega) (by simp; omega) ?_; intro v' w2 hown' hgrow _; obtain ⟨gn, cn, rfl⟩ := ownsRow_succ hown'; have hb2 := (I1.out.alloc (.cells #[.int .i64 q.1] 3)).kept hgrow (NE.out ()); have c8 := hb2.cell; have f8 := hb2.frozen))
    refine ⟨((Kept.alloc W _ (by omega)).trans (Kept.grown hgrow (by simp; omega) (fun e => NEE.out _ (by omega) e.symm) (fun e => NEE.out _ (by omega) e.symm))).trans (Kept.setCell _ _ (by simp only []; omega) (by simp only []; omega)), fun r h1 h2 => ?_, _, hb2.set _, ?_, ?_⟩
    · exact (Below.heap_setCell _ _ _ r (fun e => h2 (.inl e))).trans ((hgrow.block r (by simp; omega) (fun e => h2 (.inr ⟨so, I1.out.cell, e.symm⟩))).trans (Below.heap_alloc _ _ r h1))
    · rw [HTK.out]
      exact ownsRow_setCell_below hown' (by simp only []; omega) _
    · exact ((I3.out.alloc I3.out.size _).grown hgrow (by have := I3.out.size; simp; omega) (fun r e => by have := (I2.out.lt r e).1; omega)).setCell (p := ⟨w.heap.size, 0, none⟩) (Nat.le_refl _) _
  case done =>
    rintro W ⟨sv, i1, i2, i3⟩ hsz hD
    rw [List.length_map] at i2
    have hpos : ∃ m, LC.length = m + 1 := by
      cases HCH.out with
      | stop _ => exact ⟨0, rfl⟩
      | circle _ _ => exact ⟨0, rfl⟩
      | step _ _ _ => exact ⟨_, rfl⟩
    obtain ⟨m, hm⟩ := hpos
    have hfl : firsts LC LC.length = LC.map (·.1) := by unfold firsts; rw [List.take_length]
    rw [hfl, hm] at i2
    obtain ⟨g, cap, rfl⟩ := ownsRow_succ i2
    have hcap : m + 1 ≤ cap := by
      rcases i2.2 with ⟨h, _⟩ | ⟨_, _, _, h, _, _, h4, _⟩
      · cases h
      · cases h; exact h4
    have c8 := i1.cell
    have f8 := i1.frozen
    have I1 := Lib.hid i1
    have I2 := Lib.hid i2
    have I3 := Lib.hid i3
    have HDD := Lib.hid hD
    clear hseq k8 kx kp hBW hBw HDK HCH i1 i2 i3 hD hi hz0 hzz1 hz2
    gi_wp2_with (refine ⟨trivial, ?_⟩; gi_at_call 54; refine (callsIn_wide.2 (clip_any g (m + 1) cap hcap _)).mono ?_; rintro e wz ⟨rfl, rfl⟩)
    exact agents_end (by omega) HCC.out hm (by rw [hz] at HDD; exact HDD.out) I1.out I2.out I3.out rfl rfl
  case stop =>
    rintro c k W _ h
    exact h.elim
set_option maxRecDepth 100000 in
set_option maxHeartbeats 2000000 in
theorem agents_none (l : List En) (v : Value) (person day time : Int) (w : World) (h : SlE w w.heap.size v l) (hs : openE l person day time ≠ 0) :
    Calls Tryz.prog 19 #[v, .int .i64 person, .int .i64 day, .int .i64 time] w fun e w' => e = .returned (.tuple #[.slice none 0 0, .int .i64 (openE l person day time)]) ∧ Below w.heap.size w w' := by
  have hop := fun (W : World) (hb : Below w.heap.size w W) => open_none l v person day time W ((h.below hb).mono hb.size) hs
  obtain ⟨E, hE⟩ : ∃ E, openE l person day time = E := ⟨_, rfl⟩
  rw [hE] at hop hs
  rw [hE]
  have HOP := Lib.hid hop
  have f0 : (E != 0) = true := bne_iff_ne.2 hs
  have HB := Lib.hid ((Below.refl w.heap.size w).alloc (Nat.le_refl _) (.cells #[.slice none 0 0] 25))
  have HL := Lib.hid (Boxed.new w 25 (.slice none 0 0))
  clear hop hE h hs
  go_enter Tryz.func19, Tryz.ntmps19
  go_wp2_with (go_at_call 52; (with_reducible refine (HOP.out _ HB.out).mono ?_); rintro e w1 ⟨rfl, hb1⟩; have r8 := (show Boxed w1 w.heap.size 25 (.slice none 0 0) from (hb1.block _ (by simp)).trans HL.out); have c8 := r8.cell; have f8 := r8.frozen)
  exact bodyPost_ret (ret_agents _ _ w.heap.size _ E rfl rfl (r8.set (.slice none 0 0))) rfl ⟨rfl, (HB.out.trans (hb1.mono HB.out.size)).setCell (p := ⟨w.heap.size, 0, none⟩) (Nat.le_refl _) _⟩
end Go.Proofs.YthckledagggoiaaGreatDoor
