import Derived.Test.YtaheibbbdglcmaaDoorDg4
import Derived.Laws.AppendOwn
import Derived.Laws.OwnMore
import Derived.Laws.NewBlocks
import Derived.Laws.IdiomStrings
import Derived.Lib.AppendZeros
import Derived.OwnWalk
import Derived.Deep.Cut
import Derived.Laws.AppendOwnNone
namespace Go.Proofs.YtaheibbbdglcmaaDoor
open Go.RowKit Fk Sha
/-! Bytes put together; hashes under a tag. -/
theorem infoB : (Tryd.prog.info? 5).map (fun i => (i.zero, i.size, i.bytes)) = some (some (.int .u8 0), 1, 1) := by kernel_rfl
set_option maxRecDepth 100000 in
set_option maxHeartbeats 1000000 in
theorem grow_any (n : Nat) (w : World) (hn : n ≤ 4398046511104) :
    Calls Tryd.prog 70 #[.slice none 0 0, .int .i64 n] w fun e w' => ∃ v, e = .returned v ∧ w'.ownsRow w.heap.size 5 1 v 0 [] ∧ Below w.heap.size w w' := by
  by_cases h0 : n = 0
  · subst h0
    go_enter Tryd.func70, Tryd.ntmps70
    go_wp2_with fail
    go_ret
    exact ⟨_, rfl, World.ownsRow_nil _ _ _ _, Below.refl _ _⟩
  · obtain ⟨i0, hi, hz0, hz1, hz2⟩ := info_parts infoB
    have hr := fun ty => Lib.run_append_nil_zeros (P := Tryd.prog) w 22 3 ty 5 i0 (.int .u8 0) .i64 .i64 Tryd.underlying22 Tryd.underlying3 hi hz0 n (by omega) (by omega) (by omega) (by rw [hz2]; omega)
    have hge := grownCap_ge w n 0 5
    have hle := grownCap_le_maxLen w n 0 5 (by unfold maxLen; omega)
    have hle' := hle
    have hown : ∀ (C : Nat), n ≤ C → C ≤ maxLen → (w.drew.alloc (.cells (Builtin.zeroCells (Value.int .u8 0).cells n ++ Builtin.zeroCells (Value.int .u8 0).cells (C - n)) 5)).ownsRow w.heap.size 5 1 (.slice (some ⟨w.heap.size, 0, none⟩) 0 C) 0 [] :=
      fun C h1 h2 => World.ownsRow_made w.drew _ C (Nat.le_refl _) h2 (by simp [size_zeroCells, Value.cells]; omega)
    have hown' := hown _ hge hle
    unfold maxLen at hle
    generalize grownCap w n 0 5 = C at *
    have HO := Lib.hid hown'
    have HR := Lib.hid hr
    clear hown hown' hle' hr hi hz0 hz1 hz2
    have h4 : (n : Int) > 0 := by omega
    go_enter Tryd.func70, Tryd.ntmps70
    go_wp2_with (at_builtin; refine Lib.wpList_append_run _ rfl _ _ _ _ rfl _ _ rfl rfl _ _ (HR.out _) ?_)
    go_ret
    exact ⟨_, rfl, HO.out, (Below.refl _ w).drew.alloc (Nat.le_refl _) _⟩
theorem CellsG.byte {w : World} {b off : Nat} {l : List B} (h : CellsG 1 encB w b off l) {i : Nat} (hi : i < l.length) : w.cell? ⟨b, off + i, none⟩ = some (bv (l.getD i default)) := by
  have := h i hi 0 (by omega)
  rw [Nat.mul_one, Nat.add_zero] at this
  exact this
/-- append of bytes to a slice that the call owns -/
theorem wpList_app {w : World} {ops : Array Oper} {rest : List Oper} {o : Oper} {a : Act} {Q : Exit → Act → World → Prop} (hgd : o.guard = none) (s x : Operand)
    (ho : o.op = .call { callee := .builtin .append, args := #[s, x], argTypes := #[22, 22] })
    (base : Nat) (v : Value) (n : Nat) (xs : List B) (hs : a.eval s = v) (hown : w.ownsRow base 5 1 v n (xs.map bv))
    (vx : Value) (hx : a.eval x = vx) (l : List B) (B0 : Nat) (hl : SlB w B0 vx l) (hcap : capB vx) (hsum : n + l.length ≤ 140737488355328) (hbase : base ≤ w.heap.size)
    (h : ∀ v' w', w'.ownsRow base 5 1 v' (n + l.length) ((xs ++ l).map bv) → w.grownBy w' v.ownBlock → wpList Tryd.prog ops Q rest (a.put o.dst v') w') : wpList Tryd.prog ops Q (o :: rest) a w := by
  obtain ⟨i0, hi, hz0, hz1, hz2⟩ := info_parts infoB
  obtain ⟨A, m, c, rfl, _, _, hnone⟩ := hcap
  obtain rfl : m = l.length := by obtain ⟨_, _, _, hv, _⟩ := hl; injection hv
  cases A with
  | none =>
    obtain rfl : c = 0 := hnone rfl
    have hl0 : l = [] := by
      obtain ⟨_, A', c', hv, hE⟩ := hl
      by_cases hp : 0 < l.length
      · obtain ⟨b, off, rfl, _⟩ := hE hp
        cases hv
      · exact List.eq_nil_of_length_eq_zero (by omega)
    subst hl0
    refine wpList_append_own_none hgd s x _ ho base 5 i0 1 Tryd.underlying22 hi v n (xs.map bv) hs hown hx ?_
    have := h v w (by simpa using hown) (World.grownBy.refl _ _)
    exact this
  | some ad =>
    have hnews : ∀ j u, (l.map bv)[j]? = some u → w.cell? (ad.add j) = some u := by
      intro j u hj
      rw [List.getElem?_map] at hj
      obtain ⟨y, hy, rfl⟩ := Option.map_eq_some_iff.1 hj
      have hjl := (List.getElem?_eq_some_iff.1 hy).1
      obtain ⟨_, A', c', hv, hE⟩ := hl
      obtain ⟨b, off, rfl, _, hE⟩ := hE (by omega)
      cases hv
      rw [addr_add0, CellsG.byte hE hjl, List.getD_eq_getElem?_getD, hy]; rfl
    refine wpList_append_own w hgd s x _ ho base 5 i0 (.int .u8 0) 1 1 Tryd.underlying22 hi hz0 hz1 hz2 rfl (by decide) v n (xs.map bv) hs hown ad l.length c (l.map bv) hx (by simp) hnews
      (fun u hu => by obtain ⟨y, _, rfl⟩ := List.mem_map.1 hu; rfl) (by unfold maxLen; omega) (by omega) hbase ?_
    intro v' w' h1 h2 _
    exact h v' w' (by rw [List.map_append]; exact h1) h2
theorem own_slB {w : World} {base n : Nat} {v : Value} {l : List B} (h : w.ownsRow base 5 1 v n (l.map bv)) (hn : n = l.length) (hl : l.length ≤ 9223372036854775807) : SlB w w.heap.size v l ∧ capB v := by
  subst hn
  rcases h.2 with ⟨rfl, h0⟩ | ⟨g, cap, cur, rfl, hb, hg, hnc, hc, hcs, ht⟩
  · obtain rfl : l = [] := List.eq_nil_of_length_eq_zero h0
    exact ⟨SlG.nil_ _ _, none, 0, 0, rfl, Nat.le_refl _, by omega, fun _ => rfl⟩
  · have hr : Row w g 5 cur.toList := by show w.heap[g]? = _; rw [hg]
    unfold maxLen at hc
    refine ⟨⟨hl, _, _, rfl, fun hp => ⟨g, 0, rfl, hr.lt, fun i hi j hj => ?_⟩⟩, _, _, _, rfl, hnc, hc, fun h => by cases h⟩
    obtain rfl : j = 0 := by omega
    rw [Nat.mul_one, Nat.add_zero, Nat.zero_add, Row.cell hr]
    have e : (l.map bv)[i]? = some (bv (l.getD i default)) := by rw [List.getElem?_map, List.getD_eq_getElem?_getD, List.getElem?_eq_getElem hi]; rfl
    rw [← ht, Nat.mul_one, List.getElem?_take_of_lt hi] at e
    exact e
set_option maxRecDepth 100000 in
set_option maxHeartbeats 2000000 in
theorem concat_any (l0 l1 : List B) (v0 v1 : Value) (g : Nat) (t : TypeId) (w : World) (hR : Row w g t [v0, v1]) (h0 : SlB w w.heap.size v0 l0) (h1 : SlB w w.heap.size v1 l1) (c0 : capB v0) (c1 : capB v1) (hl : l0.length + l1.length ≤ 4398046511104) :
    Calls Tryd.prog 40 #[.slice (some ⟨g, 0, none⟩) 2 2] w fun e w' => ∃ v, e = .returned v ∧ SlB w' w'.heap.size v (l0 ++ l1) ∧ capB v ∧ Below w.heap.size w w' := by
  have H0 := Lib.hid h0
  have H1 := Lib.hid h1
  have C0 := Lib.hid c0
  have C1 := Lib.hid c1
  obtain ⟨A0, n0, k0, rfl, _⟩ := c0
  obtain ⟨A1, n1, k1, rfl, _⟩ := c1
  obtain rfl : n0 = l0.length := by obtain ⟨_, _, _, hv, _⟩ := h0; injection hv
  obtain rfl : n1 = l1.length := by obtain ⟨_, _, _, hv, _⟩ := h1; injection hv
  have d0 := Row.cell hR 0
  have d1 := Row.cell hR 1
  simp only [List.getElem?_cons_zero, List.getElem?_cons_succ] at d0 d1
  have hg := Row.lt hR
  have HR := Lib.hid hR
  clear h0 h1 hR
  have hgr := fun w => grow_any (l0.length + l1.length) w hl
  rw [Int.natCast_add] at hgr
  have HG := Lib.hid hgr
  clear hgr
  go_enter Tryd.func40, Tryd.ntmps40
  go_wp2_with fail
  refine wp_loop_rounds 3 ?_
  rw [rounds_succ]
  go_wp2_with fail
  rw [rounds_succ]
  go_wp2_with fail
  rw [rounds_succ]
  go_wp2_with (go_at_call 70; (with_reducible refine (HG.out _).mono ?_); rintro e w1 ⟨v, rfl, hown, hb⟩)
  have e0 := (hb.cell (p := ⟨g, 0, none⟩) hg).trans d0
  have e1 := (hb.cell (p := ⟨g, 1, none⟩) hg).trans d1
  have s0 := H0.out.below hb
  have s1 := H1.out.below hb
  have hz := hb.size
  have HO := Lib.hid hown
  have HB := Lib.hid hb
  have S0 := Lib.hid s0
  have S1 := Lib.hid s1
  clear d0 d1 hown hb s0 s1
  refine wp_loop_rounds 3 ?_
  rw [rounds_succ]
  go_wp2_with (at_builtin; refine wpList_app rfl _ _ rfl w.heap.size v 0 [] rfl HO.out _ rfl l0 _ S0.out C0.out (by omega) hz ?_; intro v1 w2 hown2 hg2)
  have hB2 : Below w.heap.size w w2 := HB.out.grown hg2 hz (fun r e => (HO.out.lt r e).1)
  have e2 := (hB2.cell (p := ⟨g, 1, none⟩) hg).trans ((HB.out.cell (p := ⟨g, 1, none⟩) hg).symm.trans e1)
  have s2 := H1.out.below hB2
  have hz2 := hB2.size
  have HO2 := Lib.hid hown2
  have HB2 := Lib.hid hB2
  have S2 := Lib.hid s2
  clear e0 e1 hown2 hg2 hB2 s2 HO HB S0 S1
  rw [rounds_succ]
  go_wp2_with (at_builtin; refine wpList_app rfl _ _ rfl w.heap.size v1 (0 + l0.length) ([] ++ l0) rfl HO2.out _ rfl l1 _ S2.out C1.out (by omega) hz2 ?_; intro v2 w3 hown3 hg3)
  have hB3 : Below w.heap.size w w3 := HB2.out.grown hg3 hz2 (fun r e => (HO2.out.lt r e).1)
  obtain ⟨q1, q2⟩ := own_slB hown3 (by simp only [List.nil_append, List.length_append]; omega) (by simp only [List.nil_append, List.length_append]; omega)
  have Q1 := Lib.hid q1
  have Q2 := Lib.hid q2
  have Q3 := Lib.hid hB3
  clear hown3 hg3 HO2 HB2 S2 e2 hB3 q1 q2
  rw [rounds_succ]
  go_wp2_with fail
  go_ret
  exact ⟨_, rfl, Q1.out, Q2.out, Q3.out⟩
/-- the bytes of a string -/
def sb (s : ByteArray) : List B := s.data.toList.map fun c => BitVec.ofNat 8 c.toNat
theorem sb_length (s : ByteArray) : (sb s).length = s.size := by unfold sb; rw [List.length_map, Array.length_toList]; rfl
theorem str_slB (w : World) (s : ByteArray) (C : Nat) (h1 : s.size ≤ C) (h2 : C ≤ maxLen) (fr : Nat × Nat) :
    SlB (w.drew.alloc (.cells (bytesRow s C) 5 fr)) (w.heap.size + 1) (.slice (some ⟨w.heap.size, 0, none⟩) s.size C) (sb s) ∧ capB (.slice (some ⟨w.heap.size, 0, none⟩) s.size C) := by
  unfold maxLen at h2
  refine ⟨⟨by rw [sb_length]; omega, _, _, by rw [sb_length], fun hp => ⟨w.heap.size, 0, rfl, by omega, fun i hi j hj => ?_⟩⟩, _, _, _, rfl, h1, h2, fun h => by cases h⟩
  obtain rfl : j = 0 := by omega
  have hi' : i < s.data.size := by rw [sb_length] at hi; exact hi
  have hh : (w.drew.alloc (.cells (bytesRow s C) 5 fr)).heap[w.heap.size]? = some (.cells (bytesRow s C) 5 fr) := World.alloc_heap_new w.drew _
  rw [Nat.mul_one, Nat.add_zero, Nat.zero_add]
  simp only [World.cell?, hh]
  rw [bytesRow_at s C i hi']
  have e : (sb s).getD i default = BitVec.ofNat 8 s.data[i].toNat := by
    unfold sb
    rw [List.getD_eq_getElem?_getD, List.getElem?_map, List.getElem?_eq_getElem (by simpa using hi')]
    simp
  rw [e]
  show some _ = some (bv _)
  unfold bv bn
  rw [BitVec.toNat_ofNat, Nat.mod_eq_of_lt (by have := s.data[i].toNat_lt; omega)]
/-- a string turned into bytes -/
theorem str_conv (s : ByteArray) (W0 : World) (hs : s.size ≤ 1099511627000) :
    ∃ V W1, (convert 9 22 (.string s)).run Tryd.prog W0 = .ok V W1 ∧ SlB W1 W1.heap.size V (sb s) ∧ capB V ∧ Below W0.heap.size W0 W1 := by
  have hr := run_bytes_of_string (P := Tryd.prog) W0 9 22 5 s Tryd.underlying9 Tryd.underlying22 Tryd.underlying5
  have h1 := grownCap_ge W0 s.size 0 5
  have h2 := grownCap_le_maxLen W0 s.size 0 5 (by unfold maxLen; omega)
  obtain ⟨a, b⟩ := str_slB W0 s _ h1 h2 ((bytesRow s (grownCap W0 s.size 0 5)).size, (bytesRow s (grownCap W0 s.size 0 5)).size + 1)
  exact ⟨_, _, hr, a.mono (by simp), b, (Below.refl _ W0).drew.alloc (Nat.le_refl _) _⟩
theorem setRow_new (W : World) (cs cs' : Array Value) (t : TypeId) : (W.alloc (.cells cs t)).setRow W.heap.size cs' = W.alloc (.cells cs' t) := by
  have h : ∀ (a : Array Obj) (x : Obj) (f : Obj → Obj), (a.push x).modify a.size f = a.push (f x) := by
    intro a x f
    apply Array.ext
    · simp
    · intro i h1 h2
      rw [Array.getElem_modify, Array.getElem_push, Array.getElem_push]
      by_cases e : a.size = i
      · subst e; simp
      · rw [if_neg e]
        have : i < a.size := by simp at h1; omega
        simp [this]
  unfold World.setRow World.alloc
  simp only [h]
/-- 32 bytes laid into a new block -/
theorem store32 (xs : List B) (h : xs.length = 32) (W : World) : (storeCells ⟨W.heap.size, 0, none⟩ (xs.map bv)).run Tryd.prog (W.alloc (.cells #[Value.int IntKind.u8 0, Value.int IntKind.u8 0, Value.int IntKind.u8 0, Value.int IntKind.u8 0, Value.int IntKind.u8 0, Value.int IntKind.u8 0, Value.int IntKind.u8 0, Value.int IntKind.u8 0, Value.int IntKind.u8 0, Value.int IntKind.u8 0, Value.int IntKind.u8 0, Value.int IntKind.u8 0, Value.int IntKind.u8 0, Value.int IntKind.u8 0, Value.int IntKind.u8 0, Value.int IntKind.u8 0, Value.int IntKind.u8 0, Value.int IntKind.u8 0, Value.int IntKind.u8 0, Value.int IntKind.u8 0, Value.int IntKind.u8 0, Value.int IntKind.u8 0, Value.int IntKind.u8 0, Value.int IntKind.u8 0, Value.int IntKind.u8 0, Value.int IntKind.u8 0, Value.int IntKind.u8 0, Value.int IntKind.u8 0, Value.int IntKind.u8 0, Value.int IntKind.u8 0, Value.int IntKind.u8 0, Value.int IntKind.u8 0] 30)) = .ok () (W.alloc (.cells (xs.map bv).toArray 30)) := by
  have := run_storeCells_from (P := Tryd.prog) W.heap.size 30 (xs.map bv) 0 #[Value.int IntKind.u8 0, Value.int IntKind.u8 0, Value.int IntKind.u8 0, Value.int IntKind.u8 0, Value.int IntKind.u8 0, Value.int IntKind.u8 0, Value.int IntKind.u8 0, Value.int IntKind.u8 0, Value.int IntKind.u8 0, Value.int IntKind.u8 0, Value.int IntKind.u8 0, Value.int IntKind.u8 0, Value.int IntKind.u8 0, Value.int IntKind.u8 0, Value.int IntKind.u8 0, Value.int IntKind.u8 0, Value.int IntKind.u8 0, Value.int IntKind.u8 0, Value.int IntKind.u8 0, Value.int IntKind.u8 0, Value.int IntKind.u8 0, Value.int IntKind.u8 0, Value.int IntKind.u8 0, Value.int IntKind.u8 0, Value.int IntKind.u8 0, Value.int IntKind.u8 0, Value.int IntKind.u8 0, Value.int IntKind.u8 0, Value.int IntKind.u8 0, Value.int IntKind.u8 0, Value.int IntKind.u8 0, Value.int IntKind.u8 0] (W.alloc (.cells #[Value.int IntKind.u8 0, Value.int IntKind.u8 0, Value.int IntKind.u8 0, Value.int IntKind.u8 0, Value.int IntKind.u8 0, Value.int IntKind.u8 0, Value.int IntKind.u8 0, Value.int IntKind.u8 0, Value.int IntKind.u8 0, Value.int IntKind.u8 0, Value.int IntKind.u8 0, Value.int IntKind.u8 0, Value.int IntKind.u8 0, Value.int IntKind.u8 0, Value.int IntKind.u8 0, Value.int IntKind.u8 0, Value.int IntKind.u8 0, Value.int IntKind.u8 0, Value.int IntKind.u8 0, Value.int IntKind.u8 0, Value.int IntKind.u8 0, Value.int IntKind.u8 0, Value.int IntKind.u8 0, Value.int IntKind.u8 0, Value.int IntKind.u8 0, Value.int IntKind.u8 0, Value.int IntKind.u8 0, Value.int IntKind.u8 0, Value.int IntKind.u8 0, Value.int IntKind.u8 0, Value.int IntKind.u8 0, Value.int IntKind.u8 0] 30)) (World.alloc_heap_new W _) (by simp [h]) (fun v hv => by obtain ⟨y, _, rfl⟩ := List.mem_map.1 hv; rfl)
  rw [this, List.take_zero, List.nil_append, setRow_new]
theorem flat_b (l : List B) : l.flatMap encB = l.map bv := by
  induction l with
  | nil => rfl
  | cons x l ih => rw [List.flatMap_cons, ih]; rfl
/-- 32 bytes laid over a block of 32 -/
theorem store_old (xs : List B) (h : xs.length = 32) {W : World} {g : Nat} {vs : List Value} (hR : Row W g 30 vs) (hv : vs.length = 32 := by simp) : (storeCells ⟨g, 0, none⟩ (xs.map bv)).run Tryd.prog W = .ok () (W.setRow g (xs.map bv).toArray) := by
  have := run_storeCells_from (P := Tryd.prog) g 30 (xs.map bv) 0 vs.toArray W hR (by simp [h, hv]) (fun v hv => by obtain ⟨y, _, rfl⟩ := List.mem_map.1 hv; rfl)
  rw [this, List.take_zero, List.nil_append]
set_option maxRecDepth 100000 in
set_option maxHeartbeats 2000000 in
theorem tagged_any (s : ByteArray) (l : List B) (v : Value) (w : World) (h : SlB w w.heap.size v l) (hc : capB v) (hl : l.length ≤ 1099511627000) (hs : s.size ≤ 1099511627000) (hT : Tab w) (hz : 1 < w.heap.size ∧ 0 < w.heap.size) :
    Calls Tryd.prog 17 #[.string s, v] w fun e w' => e = .returned (.agg ((tagged (sb s) l).map bv).toArray) ∧ Below w.heap.size w w' := by
  have HS := Lib.hid h
  have HC := Lib.hid hc
  have HT := Lib.hid hT
  obtain ⟨A, n, c, rfl, _⟩ := hc
  obtain rfl : n = l.length := by obtain ⟨_, _, _, hv, _⟩ := h; injection hv
  obtain ⟨hz1, hz2⟩ := hz
  clear h hT
  go_enter Tryd.func17, Tryd.ntmps17
  go_upto_region 1 with (fail)
  obtain ⟨W0, hW0⟩ : ∃ W0 : World, w.alloc (.cells (List.replicate 32 (Value.int IntKind.u8 0)).toArray 30) = W0 := ⟨_, rfl⟩
  have hD0 : Row W0 w.heap.size 30 (List.replicate 32 (.int .u8 0)) := by rw [← hW0]; exact Row.new w _ _
  have hB0 : Below w.heap.size w W0 := by rw [← hW0]; exact (Below.refl _ w).alloc (Nat.le_refl _) _
  have hz0 : W0.heap.size = w.heap.size + 1 := by rw [← hW0]; simp
  refine (show _ = W0 from hW0) ▸ ?_
  clear hW0
  obtain ⟨V, W1, hrun, hV, hcV, hb1⟩ := str_conv s W0 hs
  have hD1 := Row.keep hD0 (hb1.block _ (by omega))
  have hB1 := hB0.trans (hb1.mono (by omega))
  have hs1 := sum_any (sb s) V W1 hV (by rw [sb_length]; omega) hcV (HT.out.keep ⟨hz1, hz2⟩ hB1.block) (by have := hb1.size; omega)
  have hst := fun W => store32 (sum (sb s)) (sum_length _) W
  have HS1 := Lib.hid hs1
  clear hs1 hV hcV hD0 hB0
  go_wp2_with (go_at_call 39; (with_reducible refine HS1.out.mono ?_); rintro e W2 ⟨rfl, hb2⟩)
  have hB2 := hB1.trans (hb2.mono hB1.size)
  have hD2 := Row.keep hD1 (hb2.block _ (Row.lt hD1))
  have hz2' := Row.lt hD2
  obtain ⟨W3, hW3⟩ : ∃ W3 : World, (W2.alloc (.cells ((sum (sb s)).map bv).toArray 30)).alloc (.cells #[.slice (some ⟨W2.heap.size, 0, none⟩) 32 32, .slice A l.length c] 22) = W3 := ⟨_, rfl⟩
  have hB3 : Below w.heap.size w W3 := by rw [← hW3]; exact (hB2.alloc hB2.size _).alloc (by have := hB2.size; simp; omega) _
  have hD3 : Row W3 w.heap.size 30 (List.replicate 32 (.int .u8 0)) := by rw [← hW3]; exact Row.alloc (Row.alloc hD2 _) _
  have hR3 : Row W3 (W2.heap.size + 1) 22 [.slice (some ⟨W2.heap.size, 0, none⟩) 32 32, .slice A l.length c] := by rw [← hW3]; exact row_at' (by simp) _ _
  have hz3 : W3.heap.size = W2.heap.size + 2 := by rw [← hW3]; simp
  have hT3 : Row W3 W2.heap.size 30 ((sum (sb s)).map bv) := by rw [← hW3]; exact Row.alloc (Row.new W2 _ _) _
  have hsl : SlB W3 W3.heap.size (.slice (some ⟨W2.heap.size, 0, none⟩) 32 32) (sum (sb s)) := by
    have := Row.sl (c := 32) (m := 1) (enc := encB) (l := sum (sb s)) (by rw [flat_b]; exact hT3) (fun _ => rfl) (by rw [sum_length]; omega) (show W2.heap.size < W3.heap.size by omega)
    rwa [sum_length] at this
  rw [hW3]
  have hcc := concat_any (sum (sb s)) l _ _ (W2.heap.size + 1) _ W3 hR3 hsl ((HS.out.below hB3).mono hB3.size) ⟨_, _, _, rfl, Nat.le_refl _, by omega, fun h => by cases h⟩ HC.out (by rw [sum_length]; omega)
  have HCC := Lib.hid hcc
  clear hcc hsl hT3 hR3 hW3 hD1 hB1 hb1 hb2 hD2 hB2 hst HS1
  refine HCC.out.mono ?_
  rintro e W4 ⟨V4, rfl, hV4, hcV4, hb4⟩
  have hB4 := hB3.trans (hb4.mono hB3.size)
  have hD4 := Row.keep hD3 (hb4.block _ (Row.lt hD3))
  have hs5 := sum_any (sum (sb s) ++ l) V4 W4 hV4 (by rw [List.length_append, sum_length]; omega) hcV4 (HT.out.keep ⟨hz1, hz2⟩ hB4.block) (by have := hB4.size; omega)
  have HS5 := Lib.hid hs5
  clear hs5 hV4 hcV4 hb4 hD3 hB3 HCC
  go_wp2_with fail
  refine HS5.out.mono ?_
  rintro e W5 ⟨rfl, hb5⟩
  have hD5 := Row.keep hD4 (hb5.block _ (Row.lt hD4))
  have hst5 := store_old (sum (sum (sb s) ++ l)) (sum_length _) hD5
  have hB5 := hB4.trans (hb5.mono hB4.size)
  have hlen := sum_length (sum (sb s) ++ l)
  have hR5 : Row (W5.setRow w.heap.size ((sum (sum (sb s) ++ l)).map bv).toArray) w.heap.size 30 ((sum (sum (sb s) ++ l)).map bv) := setRow_heap W5 _ _ _ _ _ hD5
  have hB6 : Below w.heap.size w (W5.setRow w.heap.size ((sum (sum (sb s) ++ l)).map bv).toArray) := below_setRow hB5 (Nat.le_refl _) _
  generalize W5.setRow w.heap.size ((sum (sum (sb s) ++ l)).map bv).toArray = W6 at *
  clear hB5 hb5 hD4 hB4 hrun hz0 hz3 HS5 hD5
  have HR5 := Lib.hid hR5
  have HB6 := Lib.hid hB6
  have HL := Lib.hid hlen
  clear hR5 hB6 hlen
  go_wp2_with fail
  have hinf : (Tryd.prog.info? 30).map (·.size) = some 32 := by kernel_rfl
  exact bodyPost_ret (v := .agg ((sum (sum (sb s) ++ l)).map bv).toArray) (results_cell_row (g := w.heap.size) (t := 30) (fr := (0, 0)) rfl _ W6 _ _ rfl HR5.out Tryd.underlying30 rfl (by rw [hinf]; simp [HL.out])) rfl ⟨rfl, HB6.out⟩
end Go.Proofs.YtaheibbbdglcmaaDoor
