import Derived.Deep.LoopGhost
import Derived.OrdersIn
import Derived.TacticsIn
import Derived.RangeFuncCalls
import Derived.Test.YtaheibbbdglcmaaDoorPke
namespace Go.Proofs.YtaheibbbdglcmaaDoor
open Go.RowKit Fk

theorem take_snocI {l : List Int} {k : Nat} (h : k < l.length) : l.take (k + 1) = l.take k ++ [l.getD k default] := by
  rw [List.take_succ_eq_append_getElem h]; simp [h]
theorem join_step {l : List Int} {k : Nat} {c : Int} (h : k < l.length) (hj : joinTo (l.take k) = some c) (hm : mulE c (l.getD k default) = 0) : joinTo (l.take (k + 1)) = some (mulC c (l.getD k default)) := by
  rw [take_snocI h, joinTo_snoc, hj]
  unfold mulE at hm
  split at hm
  · rename_i h1
    simp only
    rw [if_pos h1]; unfold mulC; rw [if_pos h1]
  · cases hm
theorem join_bad {l : List Int} {k : Nat} {c : Int} (h : k < l.length) (hj : joinTo (l.take k) = some c) (hm : mulE c (l.getD k default) ≠ 0) : joinTo l = none ∧ mulE c (l.getD k default) = 90 := by
  unfold mulE at *
  split at hm
  · exact absurd rfl hm
  · rename_i h1
    refine ⟨?_, by rw [if_neg h1]⟩
    have : joinTo (l.take (k + 1)) = none := by
      rw [take_snocI h, joinTo_snoc, hj]
      simp only
      rw [if_neg h1]
    rw [← List.take_append_drop (k + 1) l]
    exact joinTo_none this
end Go.Proofs.YtaheibbbdglcmaaDoor

namespace Go.Proofs.YtaheibbbdglcmaaDoor
open Go.RowKit Go.Shelf Fk
attribute [local go_sem] Oper.semAt_some

def ciV (bs k : Nat) : Array Value := #[.int .i64 (k : Int), .pointer (some ⟨bs, k * 2, none⟩)]
def ciVals (bs : Nat) : List (Array Value) := (List.range 3).map (ciV bs)
theorem ciVals_get (bs : Nat) {k : Nat} (h : k < 3) : (ciVals bs)[k]? = some (ciV bs k) := by
  unfold ciVals; rw [List.getElem?_map, List.getElem?_range h]; rfl
theorem ciVals_length (bs : Nat) : (ciVals bs).length = 3 := by simp [ciVals]
theorem ciVals_some {bs k : Nat} {v : Array Value} (h : (ciVals bs)[k]? = some v) : k < 3 ∧ v = ciV bs k := by
  have hk : k < 3 := by have := (List.getElem?_eq_some_iff.1 h).1; rwa [ciVals_length] at this
  rw [ciVals_get bs hk] at h
  exact ⟨hk, by injection h with h; exact h.symm⟩

set_option maxHeartbeats 1000000 in
theorem ciphers_seq (bs bc K : Nat) (m : Nat) (hm : 1 ≤ m) :
    SeqL Fence.wide m Tryd.prog 80 #[.pointer (some ⟨bc, 0, none⟩)] (ciVals bs)
      (fun _ => False) (fun r => r = bc) (fun W => Boxed W bc 88 (.pointer (some ⟨bs, 0, none⟩))) K := fun l J Jx W hT hsz hJ hJx hY h0 => by
  refine callsIn_of_wp Tryd.func80 rfl trivial ?_ rfl
  simp only [Tryd.ntmps80, List.size_toArray, List.length_cons, List.length_nil, Nat.reduceAdd, Nat.reduceSub, Array.replicate_succ, Array.replicate_zero, List.push_toArray, List.append_toArray, List.nil_append, List.cons_append]
  gi_wp2
  gi_loopw [4] (fun i wr => ∃ k : Nat, i = .int .i64 k ∧ k ≤ 3 ∧ Boxed wr bc 88 (.pointer (some ⟨bs, 0, none⟩)) ∧ J k wr ∧ K ≤ wr.heap.size) (fun i _ => 3 - (intOf i).toNat)
  case atStart => exact ⟨0, rfl, by omega, hT, h0, by omega⟩
  case round =>
    obtain ⟨k, rfl, hk, hB, hJk, hKw⟩ := hrel
    have c1 := hB.cell
    by_cases h3 : k < 3
    · have hv := ciVals_get bs h3
      obtain ⟨fn, tmps, assign, body, hy, hR⟩ := hY k _ wr hJk hKw hv
      unfold ciV at hy
      have s5 : (0 : Int) ≤ k := by omega
      have s6 : (k : Int) < 3 := by omega
      clear hv
      gi_wp2
      refine hR.mono ?_
      rintro e W3 (⟨rfl, hJ3, hS3, hz3⟩ | ⟨rfl, hJx3⟩)
      · have hB3 : Boxed W3 bc 88 (.pointer (some ⟨bs, 0, none⟩)) := (hS3 bc rfl).trans hB
        clear c1 hy hR hY
        gi_wp2
        refine ⟨⟨k + 1, by go_num, by omega, hB3, hJ3, by omega⟩, by simp [intOf]; omega⟩
      · clear hy hR hY
        gi_wp2
        refine bodyPost_ret (results_none rfl _ _ _) rfl ?_
        exact ⟨⟨_, rfl⟩, .inr ⟨k, by rw [ciVals_length]; exact h3, hJx3⟩⟩
    · obtain rfl : k = 3 := by omega
      gi_wp2
      go_end0
      exact ⟨⟨_, rfl⟩, .inl (by rw [ciVals_length]; exact hJk)⟩

set_option maxHeartbeats 400000 in
theorem ciphers_any (bs : Nat) (w : World) :
    Calls Tryd.prog 61 #[.pointer (some ⟨bs, 0, none⟩)] w fun e w' => e = .returned (.func (.func 80) #[] #[.pointer (some ⟨w.heap.size, 0, none⟩)]) ∧
      w.alloc (.cells #[.pointer (some ⟨bs, 0, none⟩)] 88) = w' := by
  go_enter Tryd.func61, Tryd.ntmps61
  go_wp2
  go_ret
  exact ⟨rfl, rfl⟩
end Go.Proofs.YtaheibbbdglcmaaDoor

namespace Go.Proofs.YtaheibbbdglcmaaDoor
open Go.RowKit Go.Shelf Fk
attribute [local go_sem] Oper.semAt_some
theorem wide_fn (f : FuncId) : Fence.wide.fn f = True := rfl
attribute [local go_sem] wide_fn

theorem boxed_at {w : World} {n : Nat} (h : w.heap.size = n) (t : TypeId) (v : Value) : Boxed (w.alloc (.cells #[v] t)) n t v := h ▸ Boxed.new w t v
theorem row_at {w : World} {n : Nat} (h : w.heap.size = n) (t : TypeId) (vs : List Value) : Row (w.alloc (.cells vs.toArray t)) n t vs := h ▸ Row.new w t vs
/-- six cells of a letter -/
def RowS (W : World) (b : Nat) (s : Se) : Prop := Row W b 55 s.cells
theorem RowS.ca {W : World} {b : Nat} {s : Se} (h : RowS W b s) {k : Nat} (hk : k < 3) : W.cell? ⟨b, k * 2, none⟩ = some (.int .i64 (s.get k).a) := by
  rw [Row.cell h]
  rcases (show k = 0 ∨ k = 1 ∨ k = 2 by omega) with rfl | rfl | rfl <;> rfl
theorem RowS.cb {W : World} {b : Nat} {s : Se} (h : RowS W b s) {k : Nat} (hk : k < 3) : W.cell? ⟨b, k * 2 + 1, none⟩ = some (.int .i64 (s.get k).b) := by
  rw [Row.cell h]
  rcases (show k = 0 ∨ k = 1 ∨ k = 2 by omega) with rfl | rfl | rfl <;> rfl
theorem RowS.kept {W W' : World} {b : Nat} {s : Se} {row : Option Nat} (h : RowS W b s) (hg : W.grownBy W' row) (hne : some b ≠ row) : RowS W' b s := Row.keep h (hg.block b (Row.lt h) hne)
theorem okS_all {s : Se} (h : ∀ i, i < 3 → okC (s.get i) = true) : okS s = true := okS_iff.2 ⟨h 0 (by omega), h 1 (by omega), h 2 (by omega)⟩
theorem okS_bad {s : Se} {i : Nat} (h : okC (s.get i) = false) : okS s = false := by
  cases hs : okS s with
  | false => rfl
  | true => rw [okS_get hs i] at h; cases h

set_option maxHeartbeats 1000000 in
theorem echeck_any (s : Se) (w : World) :
    Calls Tryd.prog 60 #[s.val] w fun e w' => e = .returned (.int .i64 (chS s)) ∧ Below w.heap.size w w' := by
  refine (callsIn_wide (n := 3)).1 ?_
  refine callsIn_of_wp_marks Tryd.func60 rfl trivial ?_ rfl
  simp only [Tryd.ntmps60, List.size_toArray, List.length_cons, List.length_nil, Nat.reduceAdd, Nat.reduceSub, Array.replicate_succ, Array.replicate_zero, List.push_toArray, List.append_toArray, List.nil_append, List.cons_append]
  unfold Se.val
  gi_wp2_with (gi_at_call 61; refine (callsIn_wide.2 (ciphers_any _ _)).mono ?_; rintro e w' ⟨rfl, rfl⟩)
  obtain ⟨W0, hW0⟩ : ∃ W0 : World, (((w.alloc (Obj.cells #[Value.int IntKind.i64 s.x.a, Value.int IntKind.i64 s.x.b, Value.int IntKind.i64 s.y.a, Value.int IntKind.i64 s.y.b, Value.int IntKind.i64 s.z.a, Value.int IntKind.i64 s.z.b] 55)).alloc
        (Obj.cells #[Value.int IntKind.i64 0] 24)).alloc (Obj.cells #[Value.pointer (some { block := w.heap.size, off := 0 })] 88)) = W0 := ⟨_, rfl⟩
  have hz : W0.heap.size = w.heap.size + 3 := by rw [← hW0]; simp
  have hR : RowS W0 w.heap.size s := by rw [← hW0]; exact ((Row.new w 55 s.cells).alloc _).alloc _
  have hE : Boxed W0 (w.heap.size + 1) 24 (.int .i64 0) := by rw [← hW0]; exact (boxed_at (by simp) _ _).alloc _
  have hP : Boxed W0 (w.heap.size + 2) 88 (.pointer (some ⟨w.heap.size, 0, none⟩)) := by rw [← hW0]; exact boxed_at (by simp) _ _
  have hBW : Below w.heap.size w W0 := by rw [← hW0]; exact (((Below.refl _ w).alloc (Nat.le_refl _) _).alloc (by simp) _).alloc (by simp; omega) _
  rw [hW0]
  clear hW0
  refine wpIn_rangeL (w := W0) rfl (by omega) (gf := 80) (lb := #[.pointer (some ⟨w.heap.size + 2, 0, none⟩)]) rfl trivial (enters_of Tryd.func80 (by kernel_rfl) rfl)
    (ciphers_seq w.heap.size (w.heap.size + 2) _ 2 (by omega))
    (fun W hW => (hW.block _ (by omega)).trans hP) (by omega) (fun h => h) (fun h => h)
    (fun v hv => by obtain ⟨p, _, rfl⟩ := List.mem_map.1 hv; rfl)
    (fun k W => RowS W w.heap.size s ∧ Boxed W (w.heap.size + 1) 24 (.int .i64 0) ∧ Below w.heap.size w W ∧ ∀ i, i < k → okC (s.get i) = true)
    (fun c _ W => c = .ret ∧ okS s = false ∧ Boxed W (w.heap.size + 1) 24 (.int .i64 100) ∧ Below w.heap.size w W)
    (fun k W W' row ⟨h1, h2, h3, h4⟩ hg hr => ⟨h1.kept hg (fun e => by have := (hr _ e.symm).resolve_left (fun h => h); omega), h2.kept hg (fun e => by have := (hr _ e.symm).resolve_left (fun h => h); omega), h3.grown hg h3.size (fun r e => by have := (hr _ e).resolve_left (fun h => h); omega), h4⟩)
    (fun c k W W' row ⟨h1, h2, h3, h4⟩ hg hr => ⟨h1, h2, h3.kept hg (fun e => by have := (hr _ e.symm).resolve_left (fun h => h); omega), h4.grown hg h4.size (fun r e => by have := (hr _ e).resolve_left (fun h => h); omega)⟩)
    ⟨hR, hE, hBW, fun i hi => by omega⟩
    (fun k a' _ => k < 3 ∧ a' = { tmps := #[Value.agg #[Value.int IntKind.i64 s.x.a, Value.int IntKind.i64 s.x.b, Value.int IntKind.i64 s.y.a, Value.int IntKind.i64 s.y.b, Value.int IntKind.i64 s.z.a, Value.int IntKind.i64 s.z.b],
            Value.pointer (some { block := w.heap.size, off := 0 }),
            Value.pointer (some { block := w.heap.size + 1, off := 0 }), undef, .pointer (some ⟨w.heap.size, k * 2, none⟩),
            Value.func (Fn.func 80) #[] #[Value.pointer (some { block := w.heap.size + 1 + 1, off := 0 })], .int .i64 (k : Int), .pointer (some ⟨w.heap.size, k * 2, none⟩),
            undef, undef, undef, undef, undef, undef, undef, undef, undef, undef, undef, undef, undef, undef], defers := [] })
    (fun _ _ _ _ _ _ hs _ _ => hs) ?assign ?body ?done ?stop
  case assign =>
    intro l k v W K hI hv hsz hK
    obtain ⟨hk, rfl⟩ := ciVals_some hv
    clear hv
    unfold ciV
    gi_wp2
    exact hK _ _ (Kept.refl _ _) (SameOn.refl _ _) hI ⟨hk, rfl⟩
  case body =>
    rintro l k v a' W ⟨h1, h2, h3, h4⟩ ⟨hk, rfl⟩ hv hsz
    have c1 := h1.ca hk
    have c2 := h1.cb hk
    have c3 := h2.cell
    have c4 := h2.frozen
    have hok : okC (s.get k) = (vld (s.get k).a && vld (s.get k).b) := rfl
    have hbad := okS_bad (s := s) (i := k)
    obtain ⟨c, hsk⟩ : ∃ c, s.get k = c := ⟨_, rfl⟩
    rw [hsk] at c1 c2 hok hbad
    have hall : okC c = true → ∀ i, i < k + 1 → okC (s.get i) = true := fun hc i hi => by
      by_cases e : i = k
      · rw [e, hsk]; exact hc
      · exact h4 i (by omega)
    have H4 := Lib.hid hall
    clear hall hsk h4
    have HB := Lib.hid hbad
    have HO := Lib.hid hok
    clear hbad hok
    by_cases ha : vld c.a = true ∧ vld c.b = true
    · obtain ⟨ha, hb⟩ := ha
      gi_wp2_with (gi_at_call 37; refine (callsIn_wide.2 (valid_any _ _)).mono ?_; rintro e w' ⟨rfl, rfl⟩)
      exact ⟨Kept.refl _ _, SameOn.refl _ _, h1, h2, h3, H4.out (by rw [HO.out, ha, hb]; rfl)⟩
    · have hf : okS s = false := HB.out (by rw [HO.out]; cases hva : vld c.a <;> cases hvb : vld c.b <;> simp_all)
      have HF := Lib.hid hf
      clear hf
      cases hva : vld c.a with
      | true =>
        have hvb : vld c.b = false := by cases hvb : vld c.b <;> simp_all
        clear ha
        gi_wp2_with (gi_at_call 37; refine (callsIn_wide.2 (valid_any _ _)).mono ?_; rintro e w' ⟨rfl, rfl⟩)
        exact ⟨Kept.setCell _ _ (by simp only []; omega) (by simp only []; omega), rfl, HF.out, h2.set _, h3.setCell (p := ⟨w.heap.size + 1, 0, none⟩) (by simp) _⟩
      | false =>
        clear ha
        gi_wp2_with (gi_at_call 37; refine (callsIn_wide.2 (valid_any _ _)).mono ?_; rintro e w' ⟨rfl, rfl⟩)
        exact ⟨Kept.setCell _ _ (by simp only []; omega) (by simp only []; omega), rfl, HF.out, h2.set _, h3.setCell (p := ⟨w.heap.size + 1, 0, none⟩) (by simp) _⟩
  case done =>
    rintro W ⟨h1, h2, h3, h4⟩ hsz hD
    have e1 : chS s = 0 := by unfold chS; rw [if_pos (okS_all (fun i hi => h4 i (by rw [ciVals_length]; exact hi)))]
    have c3 := h2.cell
    have c4 := h2.frozen
    have HE := Lib.hid e1
    clear e1 h4 h1
    gi_wp2
    have hD' : (W.setCell ⟨w.heap.size + 1, 0, none⟩ (.int .i64 0)).heap[W0.heap.size]? = some (.deferred (some [])) := (Below.heap_setCell _ _ _ _ (by simp only []; omega)).trans hD
    have b1 := h2.set (.int .i64 0)
    have hBf := h3.setCell (p := ⟨w.heap.size + 1, 0, none⟩) (by simp) (.int .i64 0)
    refine ⟨by simp, .inl ⟨_, _, rfl, run_takeDeferred hD', ?_⟩⟩
    have d1 := (b1.kept (grownBy_putObj' _ W0.heap.size (.deferred none)) (by simp; omega)).cell
    refine ⟨.int .i64 0, ?_, by rw [HE.out], ?_⟩
    · simp [results, Tryd.f60, go_sem, d1]
    · exact hBf.grown (grownBy_putObj' _ W0.heap.size (.deferred none)) hBf.size (fun r e => by cases e; omega)
  case stop =>
    rintro c k W _ ⟨rfl, h2, h3, h4⟩ hsz hD
    have e1 : chS s = 100 := by unfold chS; rw [h2]; rfl
    have HE := Lib.hid e1
    clear e1 h2
    gi_wp2
    refine ⟨by simp, .inl ⟨_, _, rfl, run_takeDeferred hD, ?_⟩⟩
    have d1 := (h3.kept (grownBy_putObj' _ W0.heap.size (.deferred none)) (by simp; omega)).cell
    refine ⟨.int .i64 100, ?_, by rw [HE.out], ?_⟩
    · simp [results, Tryd.f60, go_sem, d1]
    · exact h4.grown (grownBy_putObj' _ W0.heap.size (.deferred none)) h4.size (fun r e => by cases e; omega)
end Go.Proofs.YtaheibbbdglcmaaDoor

set_option linter.unusedSimpArgs false
set_option linter.unusedVariables false
namespace Go.Proofs.YtaheibbbdglcmaaDoor
open Go.RowKit Fk Sha
def encS (s : Se) : List Value := s.cells
abbrev SlS (w : World) (B0 : Nat) (v : Value) (l : List Se) : Prop := SlG 6 encS w B0 v l
def letE (l : List Se) : Int := if 64 < l.length then 2 else if l.all okS then 0 else 100
theorem SlS.get {w : World} {B0 : Nat} {v : Value} {l : List Se} (h : SlS w B0 v l) {k : Nat} (hk : k < l.length) : ∃ b o c, v = .slice (some ⟨b, o, none⟩) l.length c ∧ b < B0 ∧
    w.cell? ⟨b, o + k * 6, none⟩ = some (.int .i64 (l.getD k default).x.a) ∧ w.cell? ⟨b, o + k * 6 + 1, none⟩ = some (.int .i64 (l.getD k default).x.b) ∧
    w.cell? ⟨b, o + k * 6 + 2, none⟩ = some (.int .i64 (l.getD k default).y.a) ∧ w.cell? ⟨b, o + k * 6 + 3, none⟩ = some (.int .i64 (l.getD k default).y.b) ∧
    w.cell? ⟨b, o + k * 6 + 4, none⟩ = some (.int .i64 (l.getD k default).z.a) ∧ w.cell? ⟨b, o + k * 6 + 5, none⟩ = some (.int .i64 (l.getD k default).z.b) := by
  obtain ⟨_, A, c, hv, hE⟩ := h
  obtain ⟨b, o, rfl, hb, hE⟩ := hE (by omega)
  exact ⟨b, o, c, hv, hb, hE k hk 0 (by omega), hE k hk 1 (by omega), hE k hk 2 (by omega), hE k hk 3 (by omega), hE k hk 4 (by omega), hE k hk 5 (by omega)⟩
set_option maxRecDepth 100000 in
set_option maxHeartbeats 1000000 in
theorem bad_any (s : Se) (w : World) :
    Calls Tryd.prog 77 #[s.val] w fun e w' => e = .returned (.bool (!okS s)) ∧ Below w.heap.size w w' := by
  have hm := fun w => echeck_any s w
  unfold Se.val at hm ⊢
  have hB := below_alloc' w (.cells #[.int .i64 s.x.a, .int .i64 s.x.b, .int .i64 s.y.a, .int .i64 s.y.b, .int .i64 s.z.a, .int .i64 s.z.b] 55)
  obtain ⟨b, hb⟩ : ∃ b, okS s = b := ⟨_, rfl⟩
  have hc : chS s = if b then 0 else 100 := by unfold chS; rw [hb]
  rw [hb]
  rw [hc] at hm
  obtain ⟨x0, h0⟩ : ∃ x, s.x.a = x := ⟨_, rfl⟩
  obtain ⟨x1, h1⟩ : ∃ x, s.x.b = x := ⟨_, rfl⟩
  obtain ⟨x2, h2⟩ : ∃ x, s.y.a = x := ⟨_, rfl⟩
  obtain ⟨x3, h3⟩ : ∃ x, s.y.b = x := ⟨_, rfl⟩
  obtain ⟨x4, h4⟩ : ∃ x, s.z.a = x := ⟨_, rfl⟩
  obtain ⟨x5, h5⟩ : ∃ x, s.z.b = x := ⟨_, rfl⟩
  rw [h0, h1, h2, h3, h4, h5] at hm hB ⊢
  clear hb hc h0 h1 h2 h3 h4 h5
  cases b
  all_goals
    simp only [if_true, Bool.false_eq_true, if_false] at hm
    have HM := Lib.hid hm
    clear hm
    go_enter Tryd.func77, Tryd.ntmps77
    go_wp2_with (go_at_call 60; (with_reducible refine (HM.out _).mono ?_); rintro e w1 ⟨rfl, hb⟩)
    go_ret
    exact ⟨rfl, hB.trans (hb.mono hB.size)⟩
set_option maxRecDepth 100000 in
set_option maxHeartbeats 2000000 in
theorem index_bad (l : List Se) (v : Value) (w : World) (h : SlS w w.heap.size v l) :
    Calls Tryd.prog 92 #[v, .func (Fn.func 77) #[] #[]] w fun e w' => ∃ k : Int, e = .returned (.int .i64 k) ∧ (0 ≤ k ↔ l.all okS = false) ∧ Below w.heap.size w w' := by
  have HS := Lib.hid h
  obtain ⟨hlen, A, c, rfl, _⟩ := h
  go_enter Tryd.func92, Tryd.ntmps92
  go_wp2_with fail
  go_loopg [8] l.length (fun g iv wr => Below w.heap.size w wr ∧ ∃ k : Nat, iv = .int .i64 k ∧ k + g = l.length ∧ Hid (∀ i, i < k → okS (l.getD i default) = true))
  case atStart => exact ⟨Below.refl _ _, 0, rfl, by omega, fun i hi => absurd hi (by omega)⟩
  case round =>
    obtain ⟨hBr, k, rfl, hkg, hall⟩ := hrel
    have hzr := hBr.size
    by_cases hlt : k < l.length
    · obtain ⟨b, o, c', hv, hbb, d0, d1, d2, d3, d4, d5⟩ := SlS.get (HS.out.below hBr) hlt
      cases hv
      have hbad : okS (l.getD k default) = false → l.all okS = false := fun e => by
        rw [List.all_eq_false]
        refine ⟨l.getD k default, ?_, by rw [e]; decide⟩
        rw [List.getD_eq_getElem?_getD, List.getElem?_eq_getElem hlt]
        exact List.getElem_mem _
      obtain ⟨s, hs⟩ : ∃ s, l.getD k default = s := ⟨_, rfl⟩
      rw [hs] at d0 d1 d2 d3 d4 d5 hbad
      have hm := fun w => bad_any s w
      unfold Se.val at hm
      have s1 : (0 : Int) ≤ k := by omega
      have s2 : (k : Int) < l.length := by omega
      cases hok : okS s with
      | true =>
        rw [hok] at hm
        have HA : Hid (∀ i, i < k + 1 → okS (l.getD i default) = true) := fun i hi => by
          by_cases e : i = k
          · rw [e, hs]; exact hok
          · exact hall.out i (by omega)
        have HM := Lib.hid hm
        clear hm hs hok hall hbad
        go_wp2_with (go_at_call 77; (with_reducible refine (HM.out _).mono ?_); rintro e w1 ⟨rfl, hb⟩)
        go_roundg (gk - 1)
        case measure => omega
        case rel => exact ⟨hBr.trans (hb.mono hzr), k + 1, by first | rfl | go_num, by omega, HA⟩
      | false =>
        rw [hok] at hm
        have hf := hbad hok
        have HM := Lib.hid hm
        have HF := Lib.hid hf
        clear hm hs hok hall hbad hf
        go_wp2_with (go_at_call 77; (with_reducible refine (HM.out _).mono ?_); rintro e w1 ⟨rfl, hb⟩)
        go_ret
        exact ⟨k, rfl, ⟨fun _ => HF.out, fun _ => by omega⟩, hBr.trans (hb.mono hzr)⟩
    · obtain rfl : k = l.length := by omega
      go_wp2_with fail
      go_ret
      refine ⟨-1, rfl, ⟨fun h => absurd h (by omega), fun h => ?_⟩, hBr⟩
      exfalso
      rw [List.all_eq_false] at h
      obtain ⟨x, hx, hx2⟩ := h
      obtain ⟨i, hi, rfl⟩ := List.getElem_of_mem hx
      have := hall.out i hi
      rw [List.getD_eq_getElem?_getD, List.getElem?_eq_getElem hi] at this
      exact hx2 this
set_option maxRecDepth 100000 in
set_option maxHeartbeats 1000000 in
theorem contains_bad (l : List Se) (v : Value) (w : World) (h : SlS w w.heap.size v l) :
    Calls Tryd.prog 76 #[v, .func (Fn.func 77) #[] #[]] w fun e w' => e = .returned (.bool (!(l.all okS))) ∧ Below w.heap.size w w' := by
  have hm := index_bad l v w h
  obtain ⟨b, hb⟩ : ∃ b, l.all okS = b := ⟨_, rfl⟩
  rw [hb] at hm ⊢
  have HM := Lib.hid hm
  clear hm hb h
  cases b
  all_goals
    go_enter Tryd.func76, Tryd.ntmps76
    go_wp2_with (go_at_call 92; (with_reducible refine HM.out.mono ?_); rintro e w1 ⟨k, rfl, hk, hb⟩; first | (have hd : decide ((0 : Int) ≤ k) = true := decide_eq_true (hk.2 rfl)) | (have hd : decide ((0 : Int) ≤ k) = false := decide_eq_false (fun h => by have := hk.1 h; cases this)))
    go_ret
    exact ⟨by first | rfl | (rw [hd]; rfl), hb⟩
set_option maxRecDepth 100000 in
set_option maxHeartbeats 1000000 in
theorem letters_any (l : List Se) (v : Value) (w : World) (h : SlS w w.heap.size v l) :
    Calls Tryd.prog 56 #[v] w fun e w' => e = .returned (.int .i64 (letE l)) ∧ Below w.heap.size w w' := by
  have hm := contains_bad l v w h
  have hlE : letE l = if 64 < l.length then 2 else if l.all okS then 0 else 100 := rfl
  obtain ⟨b, hb⟩ : ∃ b, l.all okS = b := ⟨_, rfl⟩
  rw [hb] at hm hlE
  have HM := Lib.hid hm
  obtain ⟨hlen, A, c, rfl, _⟩ := h
  clear hm hb
  by_cases h64 : 64 < l.length
  · rw [if_pos h64] at hlE
    rw [hlE]
    have hd : decide ((64 : Int) < l.length) = true := decide_eq_true (by omega)
    clear hlE
    go_enter Tryd.func56, Tryd.ntmps56
    go_wp2_with fail
    go_ret
    exact ⟨rfl, Below.refl _ _⟩
  · rw [if_neg h64] at hlE
    have hd : decide ((64 : Int) < l.length) = false := decide_eq_false (by omega)
    cases b
    all_goals
      simp only [if_true, Bool.false_eq_true, if_false] at hlE
      rw [hlE]
      clear hlE
      go_enter Tryd.func56, Tryd.ntmps56
      go_wp2_with (go_at_call 76; (with_reducible refine HM.out.mono ?_); rintro e w1 ⟨rfl, hb⟩)
      go_ret
      exact ⟨rfl, hb⟩
end Go.Proofs.YtaheibbbdglcmaaDoor

set_option linter.unusedSimpArgs false
set_option linter.unusedVariables false
namespace Go.Proofs.YtaheibbbdglcmaaDoor
open Go.RowKit Go.Shelf Fk Sha
attribute [local go_sem] Oper.semAt_some
attribute [local go_sem] wide_fn
/-! The ciphers of letters, with their places. -/
def plV (l : List Se) (j : Nat) : Array Value := #[.agg #[.int .i64 ((j / 3 : Nat) : Int), .int .i64 ((j % 3 : Nat) : Int)], ((l.getD (j / 3) default).get (j % 3)).val]
def plVals (l : List Se) : List (Array Value) := (List.range (3 * l.length)).map (plV l)
theorem plVals_length (l : List Se) : (plVals l).length = 3 * l.length := by simp [plVals]
theorem plVals_get (l : List Se) {i k : Nat} (hi : i < l.length) (hk : k < 3) : (plVals l)[3 * i + k]? = some #[.agg #[.int .i64 (i : Int), .int .i64 (k : Int)], ((l.getD i default).get k).val] := by
  unfold plVals
  rw [List.getElem?_map, List.getElem?_range (by omega)]
  show some (plV l (3 * i + k)) = _
  unfold plV
  rw [show (3 * i + k) / 3 = i by omega, show (3 * i + k) % 3 = k by omega]
theorem plVals_0 (l : List Se) {i : Nat} (hi : i < l.length) {s : Se} (hs : l.getD i default = s) : (plVals l)[3 * i + 0]? = some #[.agg #[.int .i64 (i : Int), .int .i64 0], .agg #[.int .i64 s.x.a, .int .i64 s.x.b]] := by
  rw [plVals_get l hi (by omega), hs]; rfl
theorem plVals_1 (l : List Se) {i : Nat} (hi : i < l.length) {s : Se} (hs : l.getD i default = s) : (plVals l)[3 * i + 1]? = some #[.agg #[.int .i64 (i : Int), .int .i64 1], .agg #[.int .i64 s.y.a, .int .i64 s.y.b]] := by
  rw [plVals_get l hi (by omega), hs]; rfl
theorem plVals_2 (l : List Se) {i : Nat} (hi : i < l.length) {s : Se} (hs : l.getD i default = s) : (plVals l)[3 * i + 2]? = some #[.agg #[.int .i64 (i : Int), .int .i64 2], .agg #[.int .i64 s.z.a, .int .i64 s.z.b]] := by
  rw [plVals_get l hi (by omega), hs]; rfl
def yB (l : List Se) (A : Option Addr) (r : Nat) : Prop := 1 ≤ l.length ∧ ∃ o, A = some ⟨r, o, none⟩
theorem SlS.on {w w' : World} {B0 n c : Nat} {A : Option Addr} {l : List Se} (h : SlS w B0 (.slice A n c) l) (hk : SameOn (yB l A) w w') : SlS w' B0 (.slice A n c) l := by
  obtain ⟨hl, A', c', hv, hE⟩ := h
  injection hv with e1 e2 e3
  subst e1 e3
  refine ⟨hl, A, c, by rw [e2], fun hp => ?_⟩
  obtain ⟨b, o, rfl, hb, hE⟩ := hE hp
  exact ⟨b, o, rfl, hb, hE.keep (hk b ⟨hp, o, rfl⟩)⟩
theorem SlS.news {w : World} {B0 n c : Nat} {A : Option Addr} {l : List Se} (h : SlS w B0 (.slice A n c) l) (hB : B0 ≤ w.heap.size) (o : Obj) (hp : 1 ≤ l.length) : SlS (w.alloc o) B0 (.slice A n c) l := by
  refine h.on fun r hr => ?_
  obtain ⟨_, A', c', hv, hE⟩ := h
  obtain ⟨b, off, rfl, hb, _⟩ := hE hp
  injection hv with e1 _ _
  obtain ⟨_, o2, e⟩ := hr
  rw [e1] at e
  injection e with e
  injection e with e _ _
  exact Below.heap_alloc w o r (by omega)
theorem pidx0 (s : Se) (w : World) : (Instr.index 55 (.agg #[.int .i64 s.x.a, .int .i64 s.x.b, .int .i64 s.y.a, .int .i64 s.y.b, .int .i64 s.z.a, .int .i64 s.z.b]) (.int .i64 0)).run Tryd.prog w = .ok (.agg #[.int .i64 s.x.a, .int .i64 s.x.b]) w := by kernel_rfl
theorem pidx1 (s : Se) (w : World) : (Instr.index 55 (.agg #[.int .i64 s.x.a, .int .i64 s.x.b, .int .i64 s.y.a, .int .i64 s.y.b, .int .i64 s.z.a, .int .i64 s.z.b]) (.int .i64 1)).run Tryd.prog w = .ok (.agg #[.int .i64 s.y.a, .int .i64 s.y.b]) w := by kernel_rfl
theorem pidx2 (s : Se) (w : World) : (Instr.index 55 (.agg #[.int .i64 s.x.a, .int .i64 s.x.b, .int .i64 s.y.a, .int .i64 s.y.b, .int .i64 s.z.a, .int .i64 s.z.b]) (.int .i64 2)).run Tryd.prog w = .ok (.agg #[.int .i64 s.z.a, .int .i64 s.z.b]) w := by kernel_rfl
set_option maxRecDepth 100000 in
set_option maxHeartbeats 4000000 in
theorem places_seq (l : List Se) (A : Option Addr) (c bc B0 K : Nat) (hB : B0 ≤ K) (m : Nat) (hm : 1 ≤ m) :
    SeqL Fence.wide m Tryd.prog 78 #[.pointer (some ⟨bc, 0, none⟩)] (plVals l)
      (fun _ => False) (yB l A) (fun W => Boxed W bc 46 (.slice A l.length c) ∧ SlS W B0 (.slice A l.length c) l) K := fun lb J Jx W hT hsz hJ hJx hY h0 => by
  refine callsIn_of_wp Tryd.func78 rfl trivial ?_ rfl
  simp only [Tryd.ntmps78, List.size_toArray, List.length_cons, List.length_nil, Nat.reduceAdd, Nat.reduceSub, Array.replicate_succ, Array.replicate_zero, List.push_toArray, List.append_toArray, List.nil_append, List.cons_append]
  have c1 := hT.1.cell
  gi_wp2
  gi_loopw [9] (fun i wr => ∃ k : Nat, i = .int .i64 k ∧ k ≤ l.length ∧ SlS wr B0 (.slice A l.length c) l ∧ J (3 * k) wr ∧ K ≤ wr.heap.size) (fun i _ => l.length - (intOf i).toNat)
  case atStart => exact ⟨0, rfl, by omega, hT.2, h0, by omega⟩
  case round =>
    clear c1
    obtain ⟨i, rfl, hi, hS, hJk, hKw⟩ := hrel
    by_cases hlt : i < l.length
    · obtain ⟨b, o, c', hv, hbb, d0, d1, d2, d3, d4, d5⟩ := SlS.get hS hlt
      cases hv
      obtain ⟨s, hs⟩ : ∃ s, l.getD i default = s := ⟨_, rfl⟩
      have hsx := Lib.hid hs
      rw [hs] at d0 d1 d2 d3 d4 d5
      have hw1 : IntKind.i64.wrap ((i : Int) + 1) = ((i + 1 : Nat) : Int) := by have := hS.1; rw [IntWalk.i64_in _ (by omega)]; omega
      have s1 : (0 : Int) ≤ i := by omega
      have s2 : (i : Int) < l.length := by omega
      have hJ1 := hJ.new (.cells #[.int .i64 s.x.a, .int .i64 s.x.b, .int .i64 s.y.a, .int .i64 s.y.b, .int .i64 s.z.a, .int .i64 s.z.b] 55) hJk
      have hS1 := hS.news (by omega) (.cells #[.int .i64 s.x.a, .int .i64 s.x.b, .int .i64 s.y.a, .int .i64 s.y.b, .int .i64 s.z.a, .int .i64 s.z.b] 55) (by omega)
      have hz1 : K ≤ (wr.alloc (.cells #[.int .i64 s.x.a, .int .i64 s.x.b, .int .i64 s.y.a, .int .i64 s.y.b, .int .i64 s.z.a, .int .i64 s.z.b] 55)).heap.size := by simp; omega
      clear hs hS hJk
      gi_wp2
      generalize wr.alloc (.cells #[.int .i64 s.x.a, .int .i64 s.x.b, .int .i64 s.y.a, .int .i64 s.y.b, .int .i64 s.z.a, .int .i64 s.z.b] 55) = W1 at *
      clear d0 d1 d2 d3 d4 d5
      gi_loopw [15] (fun kv w2 => ∃ k : Nat, kv = .int .i64 k ∧ k ≤ 3 ∧ SlS w2 B0 (.slice (some ⟨b, o, none⟩) l.length c) l ∧ J (3 * i + k) w2 ∧ K ≤ w2.heap.size) (fun kv _ => 3 - (intOf kv).toNat)
      case atStart => exact ⟨0, rfl, by omega, hS1, hJ1, hz1⟩
      case round =>
        clear hS1 hJ1 hz1
        obtain ⟨k, rfl, hk, hS2, hJ2, hKw2⟩ := hrel
        rcases (show k = 0 ∨ k = 1 ∨ k = 2 ∨ k = 3 by omega) with rfl | rfl | rfl | rfl
        · have hv := plVals_0 l hlt hsx.out
          have hJ3 := hJ.new (.cells #[.int .i64 s.x.a, .int .i64 s.x.b] 53) hJ2
          have hS3 := hS2.news (by omega) (.cells #[.int .i64 s.x.a, .int .i64 s.x.b] 53) (by omega)
          obtain ⟨fn, tmps, assign, body, hy, hR⟩ := hY (3 * i + 0) _ _ hJ3 (by simp; omega) hv
          have hix := pidx0 s
          clear hv
          gi_wp2
          refine hR.mono ?_
          rintro e W3 (⟨rfl, hJ4, hS4, hz4⟩ | ⟨rfl, hJx4⟩)
          · have hS5 := hS3.on hS4
            have hz5 : K ≤ W3.heap.size := by simp at hz4; omega
            clear hy hR hY hS3 hJ3
            gi_wp2
            refine ⟨⟨0 + 1, by first | rfl | go_num, by omega, hS5, hJ4, hz5⟩, by simp [intOf]⟩
          · clear hy hR hY hS3 hJ3
            gi_wp2
            refine bodyPost_ret (results_none rfl _ _ _) rfl ?_
            exact ⟨⟨_, rfl⟩, .inr ⟨3 * i + 0, by rw [plVals_length]; omega, hJx4⟩⟩
        · have hv := plVals_1 l hlt hsx.out
          have hJ3 := hJ.new (.cells #[.int .i64 s.y.a, .int .i64 s.y.b] 53) hJ2
          have hS3 := hS2.news (by omega) (.cells #[.int .i64 s.y.a, .int .i64 s.y.b] 53) (by omega)
          obtain ⟨fn, tmps, assign, body, hy, hR⟩ := hY (3 * i + 1) _ _ hJ3 (by simp; omega) hv
          have hix := pidx1 s
          clear hv
          gi_wp2
          refine hR.mono ?_
          rintro e W3 (⟨rfl, hJ4, hS4, hz4⟩ | ⟨rfl, hJx4⟩)
          · have hS5 := hS3.on hS4
            have hz5 : K ≤ W3.heap.size := by simp at hz4; omega
            clear hy hR hY hS3 hJ3
            gi_wp2
            refine ⟨⟨1 + 1, by first | rfl | go_num, by omega, hS5, hJ4, hz5⟩, by simp [intOf]⟩
          · clear hy hR hY hS3 hJ3
            gi_wp2
            refine bodyPost_ret (results_none rfl _ _ _) rfl ?_
            exact ⟨⟨_, rfl⟩, .inr ⟨3 * i + 1, by rw [plVals_length]; omega, hJx4⟩⟩
        · have hv := plVals_2 l hlt hsx.out
          have hJ3 := hJ.new (.cells #[.int .i64 s.z.a, .int .i64 s.z.b] 53) hJ2
          have hS3 := hS2.news (by omega) (.cells #[.int .i64 s.z.a, .int .i64 s.z.b] 53) (by omega)
          obtain ⟨fn, tmps, assign, body, hy, hR⟩ := hY (3 * i + 2) _ _ hJ3 (by simp; omega) hv
          have hix := pidx2 s
          clear hv
          gi_wp2
          refine hR.mono ?_
          rintro e W3 (⟨rfl, hJ4, hS4, hz4⟩ | ⟨rfl, hJx4⟩)
          · have hS5 := hS3.on hS4
            have hz5 : K ≤ W3.heap.size := by simp at hz4; omega
            clear hy hR hY hS3 hJ3
            gi_wp2
            refine ⟨⟨2 + 1, by first | rfl | go_num, by omega, hS5, hJ4, hz5⟩, by simp [intOf]⟩
          · clear hy hR hY hS3 hJ3
            gi_wp2
            refine bodyPost_ret (results_none rfl _ _ _) rfl ?_
            exact ⟨⟨_, rfl⟩, .inr ⟨3 * i + 2, by rw [plVals_length]; omega, hJx4⟩⟩
        · gi_wp2
          refine ⟨⟨i + 1, by first | rfl | go_num, by omega, hS2, by rw [show 3 * (i + 1) = 3 * i + 3 by omega]; exact hJ2, hKw2⟩, by simp [intOf]; omega⟩
    · obtain rfl : i = l.length := by omega
      gi_wp2
      go_end0
      exact ⟨⟨_, rfl⟩, .inl (by rw [plVals_length]; exact hJk)⟩
end Go.Proofs.YtaheibbbdglcmaaDoor

/-! wp_region_ord inside a round of a range over a function: what is walked outside holds inside, where no operation defers and nothing is outgrown. -/
namespace Fk
open Go
section
variable {P : Program} {ops : Array Oper} {Q : Exit → Act → World → Prop} {md : Region.Mode} {S : World → Prop}
theorem uponIn_of (lb m : Nat) {o : Oper} {a : Act} {K : Act → World → Prop} {r : Result Next} (h : o.upon P a K Q r) : o.uponIn (Fence.wide.inRound lb) m P a K Q r := by
  cases r with
  | ok nx w' =>
    cases nx with
    | value v => exact h
    | skip => exact h
    | defer d => exact h
    | enter f args => exact ⟨(fun e => by cases e), callsIn_wide.2 h⟩
    | row row args =>
      refine ⟨(fun e => by cases e), fun c cs _ => ?_⟩
      obtain ⟨v, w', r, s⟩ := h c cs
      exact ⟨v, w', r, stepsIn_wide.2 s⟩
    | _ => exact False.elim h
  | halt x w' =>
    cases x with
    | panic v => exact h
    | _ => exact False.elim h
def noDefer (ops : Array Oper) : Bool := ops.toList.all fun o => match o.op with | .defer _ => false | _ => true
theorem noDefer_at (h : noDefer ops = true) {i : Nat} {o : Oper} (ho : ops[i]? = some o) : ∀ c, o.op ≠ .defer c := by
  intro c e
  have := List.all_eq_true.1 h o (by rw [← Array.getElem?_toList] at ho; exact List.mem_of_getElem? ho)
  rw [e] at this
  cases this
theorem wpOpIn_of (lb m : Nat) (hd : noDefer ops = true) (hL : ¬ LetsOut Q) {i : Nat} {K : Act → World → Prop} {a : Act} {w : World} (h : wpOp P ops Q i K a w) : wpOpIn (Fence.wide.inRound lb) m P ops Q i K a w := by
  unfold wpOp at h
  unfold wpOpIn
  cases ho : ops[i]? with
  | none => rw [ho] at h; exact h
  | some o =>
    rw [ho] at h
    simp only at h ⊢
    split
    · rename_i hw
      rw [if_pos hw] at h
      rcases h with h | h
      · refine ⟨fun _ _ => trivial, ?_⟩
        rw [Oper.semAt_eq _ _ _ (noDefer_at hd ho)]
        exact uponIn_of lb m h
      · exact absurd h.2 hL
    · rename_i hw
      rw [if_neg hw] at h
      exact ⟨fun _ _ => trivial, h⟩
theorem wpAnyIn_of (lb m : Nat) (hd : noDefer ops = true) (hL : ¬ LetsOut Q) : ∀ (fuel : Nat) (listed : Array Bool) (a : Act) (w : World), wpAny P md ops Q fuel listed a w → wpAnyIn (Fence.wide.inRound lb) m P md ops Q fuel listed a w
  | 0, _, _, _, h => h
  | fuel + 1, _, _, _, h => ⟨h.1, fun i hi => wpOpIn_of lb m hd hL (wpOp_mono (fun _ _ h' => wpAnyIn_of lb m hd hL fuel _ _ _ h') (h.2 i hi))⟩
theorem wpIn_region_ord {lb m : Nat} {id : Nat} {a : Act} {w : World} {l : List Oper} (n : Nat) (ord : List (Nat × Nat)) (S : World → Prop) (hm : P.follows .mixedOrders = true) (hB : (regB l.toArray n ord && noDefer l.toArray) = true)
    (hL : ¬ LetsOut Q) (hQ : ∀ c a (d : Option Tmp) v w, Q (.panic c) (Act.put a d v) w → Q (.panic c) a w) (hS : S w.drew) (h : wpOrd P l.toArray Q S (l.drop n) ord a w.drew) : (Code.region id l.toArray true).wpIn (Fence.wide.inRound lb) m P Q a w := by
  simp only [regB, Bool.and_eq_true, decide_eq_true_eq] at hB
  obtain ⟨⟨⟨⟨⟨⟨hsel, hn⟩, hlen⟩, hs⟩, hc⟩, hord⟩, hnd⟩ := hB
  have inv0 : HeadInv .any l.toArray n (Array.replicate l.toArray.size false) :=
    ⟨by simp, fun j oj _ hl => (by rw [getD_replicate_false] at hl; cases hl), fun t _ ht => getD_in (by simpa using ht) (getD_replicate_false _ _)⟩
  refine wpIn_region_any hm (wpAnyIn_of lb m hnd hL _ _ _ _ (wpAny_of_G (S := S) (n := n) (fr := frOf ord) _ _ _ _ ?_))
  have := ord_sound (P := P) (Q := Q) (S := S) hQ hsel hs hc hn (l.drop n) (fun j => by simp [List.getElem?_drop]) (by simp) ord _ a w.drew inv0 hord hS h
  rw [hlen, show n + (l.toArray.size - n) = l.toArray.size by omega] at this
  exact this
end
end Fk

set_option linter.unusedSimpArgs false
set_option linter.unusedVariables false
namespace Go.Proofs.YtaheibbbdglcmaaDoor
open Go.RowKit Go.Shelf Fk Sha
attribute [local go_sem] Oper.semAt_some
attribute [local go_sem] wide_fn
set_option maxHeartbeats 400000 in
theorem eciphers_any (A : Option Addr) (n c : Nat) (w : World) :
    Calls Tryd.prog 57 #[.slice A n c] w fun e w' => e = .returned (.func (.func 78) #[] #[.pointer (some ⟨w.heap.size, 0, none⟩)]) ∧
      w.alloc (.cells #[.slice A n c] 46) = w' := by
  go_enter Tryd.func57, Tryd.ntmps57
  go_wp2
  go_ret
  exact ⟨rfl, rfl⟩
structure Pt where
  x : Pf
  y : Pf
  z : Pf
instance : Inhabited Pt := ⟨⟨default, default, default⟩⟩
def Pt.get (p : Pt) (k : Nat) : Pf := if k = 0 then p.x else if k = 1 then p.y else p.z
def encP (p : Pt) : List Value := [.int .i64 p.x.e, .int .i64 p.x.s, .int .i64 p.y.e, .int .i64 p.y.s, .int .i64 p.z.e, .int .i64 p.z.s]
abbrev SlP (w : World) (B0 : Nat) (v : Value) (l : List Pt) : Prop := SlG 6 encP w B0 v l
def plOK (key : Int) (l x : List Se) (ps : List Pt) (j : Nat) : Bool :=
  decide (((x.getD (j / 3) default).get (j % 3)).a = ((l.getD (j / 3) default).get (j % 3)).a) &&
    chkB key ((l.getD (j / 3) default).get (j % 3)).a (mulC ((l.getD (j / 3) default).get (j % 3)).b (powC ((x.getD (j / 3) default).get (j % 3)).b (-1))) ((ps.getD (j / 3) default).get (j % 3))
def cbHd (key : Int) (l x : List Se) (n : Nat) : Bool := vld key && (decide (l.length = x.length) && (decide (l.length = n) && (decide (letE l = 0) && decide (letE x = 0))))
def cbB (key : Int) (l x : List Se) (ps : List Pt) : Bool := cbHd key l x ps.length && (List.range (3 * l.length)).all (plOK key l x ps)
set_option maxRecDepth 100000 in
set_option maxHeartbeats 4000000 in
theorem cb_head (key : Int) (l x : List Se) (n : Nat) (A1 A2 A3 : Option Addr) (c1 c2 c3 : Nat) (w : World) (hl : SlS w w.heap.size (.slice A1 l.length c1) l) (hx : SlS w w.heap.size (.slice A2 x.length c2) x) (h : cbHd key l x n = false) :
    Calls Tryd.prog 28 #[.int .i64 key, .slice A1 l.length c1, .slice A2 x.length c2, .slice A3 n c3] w fun e w' => e = .returned (.bool false) ∧ Below w.heap.size w w' := by
  have m1 := fun w => valid_any key w
  have m2 := fun W (hb : Below w.heap.size w W) => letters_any l _ W ((hl.below hb).mono hb.size)
  have m3 := fun W (hb : Below w.heap.size w W) => letters_any x _ W ((hx.below hb).mono hb.size)
  unfold cbHd at h
  obtain ⟨v, hv⟩ : ∃ v, vld key = v := ⟨_, rfl⟩
  obtain ⟨e1, he1⟩ : ∃ e, letE l = e := ⟨_, rfl⟩
  obtain ⟨e2, he2⟩ : ∃ e, letE x = e := ⟨_, rfl⟩
  rw [hv] at m1 h
  rw [he1] at m2 h
  rw [he2] at m3 h
  have M1 := Lib.hid m1
  have M2 := Lib.hid m2
  have M3 := Lib.hid m3
  obtain ⟨W, hW, hB, hz, r4, r6, r7, r⟩ := made4 w [.int .i64 key] [.slice A2 x.length c2] [.slice A3 n c3] [.bool false] 3 46 47 4
  have k4 := st1c r4
  have k6 := st1c r6
  have k7 := st1c r7
  have k8 := st1c r
  have y := r.frozen 0
  clear m1 m2 m3 hl hx hv he1 he2
  cases v with
  | false =>
    go_enter Tryd.func28, Tryd.ntmps28
    go_wp2_with (first
          | (go_at_call 37; (with_reducible refine (M1.out _).mono ?_); rintro e w1 ⟨rfl, rfl⟩)
          | (go_at_call 56; (with_reducible refine (M2.out _ hB).mono ?_); rintro e w2 ⟨rfl, hb⟩; replace hB := hB.trans (hb.mono hB.size); replace r := r.below hb r.lt; replace r6 := r6.below hb r6.lt; clear hb k6 k8 y; have k6 := st1c r6; have y := r.frozen 0; have k8 := st1c r)
          | (go_at_call 56; (with_reducible refine (M3.out _ hB).mono ?_); rintro e w2 ⟨rfl, hb⟩; replace hB := hB.trans (hb.mono hB.size); replace r := r.below hb r.lt; clear hb k8 y; have y := r.frozen 0; have k8 := st1c r))
    have r1 := Row.store r 0 (.bool false)
    have p0 := st1c r1
    have hB6 := hB.setCell (p := ⟨w.heap.size + 1 + 1 + 1, 0, none⟩) (by simp only []; omega) (.bool false)
    exact bodyPost_ret (v := .bool false) (by simp [results, Tryd.results28, go_sem, p0]) rfl ⟨rfl, hB6⟩
  | true =>
    by_cases h1 : l.length = x.length
    · have q1 : ((l.length : Int) != x.length) = false := by simp [h1]
      by_cases h2 : l.length = n
      · have q2 : ((l.length : Int) != n) = false := by simp [h2]
        by_cases h3 : e1 = 0
        · have h4 : e2 ≠ 0 := fun e => by rw [decide_eq_true h1, decide_eq_true h2, decide_eq_true h3, decide_eq_true e] at h; cases h
          have q3 : (e1 != 0) = false := by simp [h3]
          have q4 : (e2 != 0) = true := by simp [h4]
          clear h h1 h2 h3 h4
          go_enter Tryd.func28, Tryd.ntmps28
          go_wp2_with (first
                | (go_at_call 37; (with_reducible refine (M1.out _).mono ?_); rintro e w1 ⟨rfl, rfl⟩)
                | (go_at_call 56; (with_reducible refine (M2.out _ hB).mono ?_); rintro e w2 ⟨rfl, hb⟩; replace hB := hB.trans (hb.mono hB.size); replace r := r.below hb r.lt; replace r6 := r6.below hb r6.lt; clear hb k6 k8 y; have k6 := st1c r6; have y := r.frozen 0; have k8 := st1c r)
                | (go_at_call 56; (with_reducible refine (M3.out _ hB).mono ?_); rintro e w2 ⟨rfl, hb⟩; replace hB := hB.trans (hb.mono hB.size); replace r := r.below hb r.lt; clear hb k8 y; have y := r.frozen 0; have k8 := st1c r))
          have r1 := Row.store r 0 (.bool false)
          have p0 := st1c r1
          have hB6 := hB.setCell (p := ⟨w.heap.size + 1 + 1 + 1, 0, none⟩) (by simp only []; omega) (.bool false)
          exact bodyPost_ret (v := .bool false) (by simp [results, Tryd.results28, go_sem, p0]) rfl ⟨rfl, hB6⟩
        · have q3 : (e1 != 0) = true := by simp [h3]
          clear h h1 h2 h3
          go_enter Tryd.func28, Tryd.ntmps28
          go_wp2_with (first
                | (go_at_call 37; (with_reducible refine (M1.out _).mono ?_); rintro e w1 ⟨rfl, rfl⟩)
                | (go_at_call 56; (with_reducible refine (M2.out _ hB).mono ?_); rintro e w2 ⟨rfl, hb⟩; replace hB := hB.trans (hb.mono hB.size); replace r := r.below hb r.lt; replace r6 := r6.below hb r6.lt; clear hb k6 k8 y; have k6 := st1c r6; have y := r.frozen 0; have k8 := st1c r)
                | (go_at_call 56; (with_reducible refine (M3.out _ hB).mono ?_); rintro e w2 ⟨rfl, hb⟩; replace hB := hB.trans (hb.mono hB.size); replace r := r.below hb r.lt; clear hb k8 y; have y := r.frozen 0; have k8 := st1c r))
          have r1 := Row.store r 0 (.bool false)
          have p0 := st1c r1
          have hB6 := hB.setCell (p := ⟨w.heap.size + 1 + 1 + 1, 0, none⟩) (by simp only []; omega) (.bool false)
          exact bodyPost_ret (v := .bool false) (by simp [results, Tryd.results28, go_sem, p0]) rfl ⟨rfl, hB6⟩
      · have q2 : ((l.length : Int) != n) = true := by simp; omega
        clear h h1 h2
        go_enter Tryd.func28, Tryd.ntmps28
        go_wp2_with (first
              | (go_at_call 37; (with_reducible refine (M1.out _).mono ?_); rintro e w1 ⟨rfl, rfl⟩)
              | (go_at_call 56; (with_reducible refine (M2.out _ hB).mono ?_); rintro e w2 ⟨rfl, hb⟩; replace hB := hB.trans (hb.mono hB.size); replace r := r.below hb r.lt; replace r6 := r6.below hb r6.lt; clear hb k6 k8 y; have k6 := st1c r6; have y := r.frozen 0; have k8 := st1c r)
              | (go_at_call 56; (with_reducible refine (M3.out _ hB).mono ?_); rintro e w2 ⟨rfl, hb⟩; replace hB := hB.trans (hb.mono hB.size); replace r := r.below hb r.lt; clear hb k8 y; have y := r.frozen 0; have k8 := st1c r))
        have r1 := Row.store r 0 (.bool false)
        have p0 := st1c r1
        have hB6 := hB.setCell (p := ⟨w.heap.size + 1 + 1 + 1, 0, none⟩) (by simp only []; omega) (.bool false)
        exact bodyPost_ret (v := .bool false) (by simp [results, Tryd.results28, go_sem, p0]) rfl ⟨rfl, hB6⟩
    · have q1 : ((l.length : Int) != x.length) = true := by simp; omega
      clear h h1
      go_enter Tryd.func28, Tryd.ntmps28
      go_wp2_with (first
            | (go_at_call 37; (with_reducible refine (M1.out _).mono ?_); rintro e w1 ⟨rfl, rfl⟩)
            | (go_at_call 56; (with_reducible refine (M2.out _ hB).mono ?_); rintro e w2 ⟨rfl, hb⟩; replace hB := hB.trans (hb.mono hB.size); replace r := r.below hb r.lt; replace r6 := r6.below hb r6.lt; clear hb k6 k8 y; have k6 := st1c r6; have y := r.frozen 0; have k8 := st1c r)
            | (go_at_call 56; (with_reducible refine (M3.out _ hB).mono ?_); rintro e w2 ⟨rfl, hb⟩; replace hB := hB.trans (hb.mono hB.size); replace r := r.below hb r.lt; clear hb k8 y; have y := r.frozen 0; have k8 := st1c r))
      have r1 := Row.store r 0 (.bool false)
      have p0 := st1c r1
      have hB6 := hB.setCell (p := ⟨w.heap.size + 1 + 1 + 1, 0, none⟩) (by simp only []; omega) (.bool false)
      exact bodyPost_ret (v := .bool false) (by simp [results, Tryd.results28, go_sem, p0]) rfl ⟨rfl, hB6⟩
/-- the frame in a round -/
abbrev cbAct (key : Int) (l : List Se) (A1 A2 A3 : Option Addr) (c1 c2 c3 : Nat) (w : World) (bc b9 b10 i k : Nat) (c : Ci) : Act := { tmps := #[.int .i64 key, .slice A1 l.length c1, .slice A2 l.length c2, .slice A3 l.length c3, .pointer (some ⟨w.heap.size, 0, none⟩), undef, .pointer (some ⟨w.heap.size + 1, 0, none⟩), .pointer (some ⟨w.heap.size + 1 + 1, 0, none⟩), .pointer (some ⟨w.heap.size + 1 + 1 + 1, 0, none⟩), .pointer (some ⟨b9, 0, none⟩), .pointer (some ⟨b10, 0, none⟩), undef, .int .i64 key, .bool true, .bool false, .bool false, .slice A1 l.length c1, .int .i64 (l.length : Int), .slice A2 l.length c2, .int .i64 (l.length : Int), .bool false, .bool false, .bool false, .slice A1 l.length c1, .int .i64 (l.length : Int), .slice A3 l.length c3, .int .i64 (l.length : Int), .bool false, .bool false, .bool false, .slice A1 l.length c1, .int .i64 0, .bool false, .bool false, .bool false, .slice A2 l.length c2, .int .i64 0, .bool false, .bool false, .slice A1 l.length c1, .func (Fn.func 78) #[] #[.pointer (some ⟨bc, 0, none⟩)], .agg #[.int .i64 (i : Int), .int .i64 (k : Int)], .agg #[.int .i64 c.a, .int .i64 c.b], undef, undef, undef, undef, undef, undef, undef, undef, undef, undef, undef, undef, undef, undef, undef, undef, undef, undef, undef, undef, undef, undef, undef, undef, undef, undef, undef, undef, undef, undef, undef, undef, undef, undef, undef], defers := [] }
/-- what stands while the places are gone through -/
structure CB (w : World) (key : Int) (vx vp : Value) (W : World) : Prop where
  b : Below w.heap.size w W
  r4 : Row W w.heap.size 3 [.int .i64 key]
  r6 : Row W (w.heap.size + 1) 46 [vx]
  r7 : Row W (w.heap.size + 1 + 1) 47 [vp]
  r8 : Row W (w.heap.size + 1 + 1 + 1) 4 [.bool false]
theorem CB.below {w W W' : World} {key : Int} {vx vp : Value} (h : CB w key vx vp W) (hb : Below W.heap.size W W') : CB w key vx vp W' :=
  ⟨h.b.trans (hb.mono h.b.size), h.r4.below hb h.r4.lt, h.r6.below hb h.r6.lt, h.r7.below hb h.r7.lt, h.r8.below hb h.r8.lt⟩
theorem CB.ab {w W W' : World} {key : Int} {vx vp : Value} {row : Option Nat} {n : Nat} (h : CB w key vx vp W) (hg : W.grownBy W' row) (hr : ∀ r, row = some r → n = r) (hn : w.heap.size + 4 ≤ n) : CB w key vx vp W' := by
  have k : ∀ m, m < w.heap.size + 4 → some m ≠ row := fun m hm e => by have := hr m e.symm; omega
  exact ⟨h.b.grown hg h.b.size (fun r e => by have := hr r e; omega), h.r4.keep (hg.block _ h.r4.lt (k _ (by omega))), h.r6.keep (hg.block _ h.r6.lt (k _ (by omega))), h.r7.keep (hg.block _ h.r7.lt (k _ (by omega))), h.r8.keep (hg.block _ h.r8.lt (k _ (by omega)))⟩
theorem SlS.at_ {w : World} {B0 : Nat} {v : Value} {l : List Se} (h : SlS w B0 v l) {i k : Nat} (hi : i < l.length) (hk : k < 3) : ∃ b o c, v = .slice (some ⟨b, o, none⟩) l.length c ∧ b < B0 ∧
    ∀ W' : World, W'.heap[b]? = w.heap[b]? → W'.cell? ⟨b, o + i * 6 + k * 2, none⟩ = some (.int .i64 ((l.getD i default).get k).a) ∧ W'.cell? ⟨b, o + i * 6 + k * 2 + 1, none⟩ = some (.int .i64 ((l.getD i default).get k).b) := by
  obtain ⟨_, A, c, rfl, hE⟩ := h
  obtain ⟨b, o, rfl, hb, hE⟩ := hE (by omega)
  refine ⟨b, o, c, rfl, hb, fun W' hW => ?_⟩
  have e := hE.keep hW
  rcases (show k = 0 ∨ k = 1 ∨ k = 2 by omega) with rfl | rfl | rfl
  · exact ⟨e i hi 0 (by omega), e i hi 1 (by omega)⟩
  · exact ⟨e i hi 2 (by omega), e i hi 3 (by omega)⟩
  · exact ⟨e i hi 4 (by omega), e i hi 5 (by omega)⟩
theorem SlP.at_ {w : World} {B0 : Nat} {v : Value} {l : List Pt} (h : SlP w B0 v l) {i k : Nat} (hi : i < l.length) (hk : k < 3) : ∃ b o c, v = .slice (some ⟨b, o, none⟩) l.length c ∧ b < B0 ∧
    ∀ W' : World, W'.heap[b]? = w.heap[b]? → W'.cell? ⟨b, o + i * 6 + k * 2, none⟩ = some (.int .i64 ((l.getD i default).get k).e) ∧ W'.cell? ⟨b, o + i * 6 + k * 2 + 1, none⟩ = some (.int .i64 ((l.getD i default).get k).s) := by
  obtain ⟨_, A, c, rfl, hE⟩ := h
  obtain ⟨b, o, rfl, hb, hE⟩ := hE (by omega)
  refine ⟨b, o, c, rfl, hb, fun W' hW => ?_⟩
  have e := hE.keep hW
  rcases (show k = 0 ∨ k = 1 ∨ k = 2 by omega) with rfl | rfl | rfl
  · exact ⟨e i hi 0 (by omega), e i hi 1 (by omega)⟩
  · exact ⟨e i hi 2 (by omega), e i hi 3 (by omega)⟩
  · exact ⟨e i hi 4 (by omega), e i hi 5 (by omega)⟩
theorem letE_ok {w : World} {B0 : Nat} {v : Value} {l : List Se} (_ : SlS w B0 v l) (h : letE l = 0) {i : Nat} (hi : i < l.length) : okS (l.getD i default) = true := by
  unfold letE at h
  split at h
  · cases h
  · split at h
    · rename_i h2
      have := List.all_eq_true.1 h2 (l.getD i default) (by rw [List.getD_eq_getElem?_getD, List.getElem?_eq_getElem hi]; exact List.getElem_mem _)
      exact this
    · cases h
end Go.Proofs.YtaheibbbdglcmaaDoor
