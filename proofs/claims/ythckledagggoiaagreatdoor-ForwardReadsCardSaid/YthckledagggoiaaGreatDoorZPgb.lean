import Derived.Laws.AppendOwn
import Derived.Laws.OwnMore
import Derived.Laws.NewBlocks
import Derived.Laws.IdiomStrings
import Derived.Lib.AppendZeros
import Derived.OwnWalk
import Derived.Deep.Cut
import Derived.Laws.AppendOwnNone
import Derived.IntWalk
import Derived.Deep.LoopGhost
import Derived.Deep.AppendLies
import Derived.Laws.EntriesVeiled
import Derived.StillTail
import Derived.StillTactics
import Derived.OrdersHeld
import Derived.StillTailTactics
import Derived.Test.YthckledagggoiaaGreatDoorZPga
namespace Go.Proofs.YthckledagggoiaaGreatDoor
open Go.RowKit Fk Sha
/-! Bytes put together; hashes under a tag. -/
theorem infoB : (Tryz.prog.info? 5).map (fun i => (i.zero, i.size, i.bytes)) = some (some (.int .u8 0), 1, 1) := by kernel_rfl
set_option maxRecDepth 100000 in
set_option maxHeartbeats 1000000 in
theorem grow_any (n : Nat) (w : World) (hn : n ≤ 4398046511104) :
    Calls Tryz.prog 162 #[.slice none 0 0, .int .i64 n] w fun e w' => ∃ v, e = .returned v ∧ w'.ownsRow w.heap.size 5 1 v 0 [] ∧ Below w.heap.size w w' := by
  by_cases h0 : n = 0
  · subst h0
    go_enter Tryz.func162, Tryz.ntmps162
    go_wp2_with fail
    go_ret
    exact ⟨_, rfl, World.ownsRow_nil _ _ _ _, Below.refl _ _⟩
  · obtain ⟨i0, hi, hz0, hz1, hz2⟩ := info_parts infoB
    have hr := fun ty => Lib.run_append_nil_zeros (P := Tryz.prog) w 155 3 ty 5 i0 (.int .u8 0) .i64 .i64 Tryz.underlying155 Tryz.underlying3 hi hz0 n (by omega) (by omega) (by omega) (by rw [hz2]; omega)
    have hge := grownCap_ge w n 0 5
    have hle := grownCap_le_maxLen w n 0 5 (by unfold maxLen; omega)
    have hle' := hle
    have hown : ∀ (C : Nat), n ≤ C → C ≤ maxLen → (w.drew.alloc (.cells (Builtin.zeroCells (Value.int .u8 0).cells n ++ Builtin.zeroCells (Value.int .u8 0).cells (C - n)) 5)).ownsRow w.heap.size 5 1 (.slice (some ⟨w.heap.size, 0, none⟩) 0 C) 0 [] :=
      fun C h1 h2 => World.ownsRow_made w.drew _ C (Nat.le_refl _) h2 (by simp [size_zeroCells, Value.cells]; omega)
    have hown' := hown _ hge hle
    unfold maxLen at hle
    generalize grownCap w n 0 5 = C at *
    have HO := Lib.hid hown'
    have HR := Lib.hid hr
    clear hown hown' hle' hr hi hz0 hz1 hz2
    have h4 : (n : Int) > 0 := by omega
    go_enter Tryz.func162, Tryz.ntmps162
    go_wp2_with (at_builtin; refine Lib.wpList_append_run _ rfl _ _ _ _ rfl _ _ rfl rfl _ _ (HR.out _) ?_)
    go_ret
    exact ⟨_, rfl, HO.out, (Below.refl _ w).drew.alloc (Nat.le_refl _) _⟩
theorem CellsG.byte {w : World} {b off : Nat} {l : List B} (h : CellsG 1 encB w b off l) {i : Nat} (hi : i < l.length) : w.cell? ⟨b, off + i, none⟩ = some (bv (l.getD i default)) := by
  have := h i hi 0 (by omega)
  rw [Nat.mul_one, Nat.add_zero] at this
  exact this
/-- append of bytes to a slice that the call owns -/
theorem wpList_app {w : World} {ops : Array Oper} {rest : List Oper} {o : Oper} {a : Act} {Q : Exit → Act → World → Prop} (hgd : o.guard = none) (s x : Operand)
    (ho : o.op = .call { callee := .builtin .append, args := #[s, x], argTypes := #[155, 155] })
    (base : Nat) (v : Value) (n : Nat) (xs : List B) (hs : a.eval s = v) (hown : w.ownsRow base 5 1 v n (xs.map bv))
    (vx : Value) (hx : a.eval x = vx) (l : List B) (B0 : Nat) (hl : SlB w B0 vx l) (hcap : capB vx) (hsum : n + l.length ≤ 140737488355328) (hbase : base ≤ w.heap.size)
    (h : ∀ v' w', w'.ownsRow base 5 1 v' (n + l.length) ((xs ++ l).map bv) → w.grownBy w' v.ownBlock → wpList Tryz.prog ops Q rest (a.put o.dst v') w') : wpList Tryz.prog ops Q (o :: rest) a w := by
  obtain ⟨i0, hi, hz0, hz1, hz2⟩ := info_parts infoB
  obtain ⟨A, m, c, rfl, _, _, hnone⟩ := hcap
  obtain rfl : m = l.length := by obtain ⟨_, _, _, hv, _⟩ := hl; injection hv
  cases A with
  | none =>
    obtain rfl : c = 0 := hnone rfl
    have hl0 : l = [] := by
      obtain ⟨_, A', c', hv, hE⟩ := hl
      by_cases hp : 0 < l.length
      · obtain ⟨b, off, rfl, _⟩ := hE hp
        cases hv
      · exact List.eq_nil_of_length_eq_zero (by omega)
    subst hl0
    refine wpList_append_own_none hgd s x _ ho base 5 i0 1 Tryz.underlying155 hi v n (xs.map bv) hs hown hx ?_
    have := h v w (by simpa using hown) (World.grownBy.refl _ _)
    exact this
  | some ad =>
    have hnews : ∀ j u, (l.map bv)[j]? = some u → w.cell? (ad.add j) = some u := by
      intro j u hj
      rw [List.getElem?_map] at hj
      obtain ⟨y, hy, rfl⟩ := Option.map_eq_some_iff.1 hj
      have hjl := (List.getElem?_eq_some_iff.1 hy).1
      obtain ⟨_, A', c', hv, hE⟩ := hl
      obtain ⟨b, off, rfl, _, hE⟩ := hE (by omega)
      cases hv
      rw [addr_add0, CellsG.byte hE hjl, List.getD_eq_getElem?_getD, hy]; rfl
    refine wpList_append_own w hgd s x _ ho base 5 i0 (.int .u8 0) 1 1 Tryz.underlying155 hi hz0 hz1 hz2 rfl (by decide) v n (xs.map bv) hs hown ad l.length c (l.map bv) hx (by simp) hnews
      (fun u hu => by obtain ⟨y, _, rfl⟩ := List.mem_map.1 hu; rfl) (by unfold maxLen; omega) (by omega) hbase ?_
    intro v' w' h1 h2 _
    exact h v' w' (by rw [List.map_append]; exact h1) h2
theorem own_slB {w : World} {base n : Nat} {v : Value} {l : List B} (h : w.ownsRow base 5 1 v n (l.map bv)) (hn : n = l.length) (hl : l.length ≤ 9223372036854775807) : SlB w w.heap.size v l ∧ capB v := by
  subst hn
  rcases h.2 with ⟨rfl, h0⟩ | ⟨g, cap, cur, rfl, hb, hg, hnc, hc, hcs, ht⟩
  · obtain rfl : l = [] := List.eq_nil_of_length_eq_zero h0
    exact ⟨SlG.nil_ _ _, none, 0, 0, rfl, Nat.le_refl _, by omega, fun _ => rfl⟩
  · have hr : Row w g 5 cur.toList := by show w.heap[g]? = _; rw [hg]
    unfold maxLen at hc
    refine ⟨⟨hl, _, _, rfl, fun hp => ⟨g, 0, rfl, hr.lt, fun i hi j hj => ?_⟩⟩, _, _, _, rfl, hnc, hc, fun h => by cases h⟩
    obtain rfl : j = 0 := by omega
    rw [Nat.mul_one, Nat.add_zero, Nat.zero_add, Row.cell hr]
    have e : (l.map bv)[i]? = some (bv (l.getD i default)) := by rw [List.getElem?_map, List.getD_eq_getElem?_getD, List.getElem?_eq_getElem hi]; rfl
    rw [← ht, Nat.mul_one, List.getElem?_take_of_lt hi] at e
    exact e
set_option maxRecDepth 100000 in
set_option maxHeartbeats 2000000 in
theorem concat_any (l0 l1 : List B) (v0 v1 : Value) (g : Nat) (t : TypeId) (w : World) (hR : Row w g t [v0, v1]) (h0 : SlB w w.heap.size v0 l0) (h1 : SlB w w.heap.size v1 l1) (c0 : capB v0) (c1 : capB v1) (hl : l0.length + l1.length ≤ 4398046511104) :
    Calls Tryz.prog 144 #[.slice (some ⟨g, 0, none⟩) 2 2] w fun e w' => ∃ v, e = .returned v ∧ SlB w' w'.heap.size v (l0 ++ l1) ∧ capB v ∧ Below w.heap.size w w' := by
  have H0 := Lib.hid h0
  have H1 := Lib.hid h1
  have C0 := Lib.hid c0
  have C1 := Lib.hid c1
  obtain ⟨A0, n0, k0, rfl, _⟩ := c0
  obtain ⟨A1, n1, k1, rfl, _⟩ := c1
  obtain rfl : n0 = l0.length := by obtain ⟨_, _, _, hv, _⟩ := h0; injection hv
  obtain rfl : n1 = l1.length := by obtain ⟨_, _, _, hv, _⟩ := h1; injection hv
  have d0 := Row.cell hR 0
  have d1 := Row.cell hR 1
  simp only [List.getElem?_cons_zero, List.getElem?_cons_succ] at d0 d1
  have hg := Row.lt hR
  have HR := Lib.hid hR
  clear h0 h1 hR
  have hgr := fun w => grow_any (l0.length + l1.length) w hl
  rw [Int.natCast_add] at hgr
  have HG := Lib.hid hgr
  clear hgr
  go_enter Tryz.func144, Tryz.ntmps144
  go_wp2_with fail
  refine wp_loop_rounds 3 ?_
  rw [rounds_succ]
  go_wp2_with fail
  rw [rounds_succ]
  go_wp2_with fail
  rw [rounds_succ]
  go_wp2_with (go_at_call 162; (with_reducible refine (HG.out _).mono ?_); rintro e w1 ⟨v, rfl, hown, hb⟩)
  have e0 := (hb.cell (p := ⟨g, 0, none⟩) hg).trans d0
  have e1 := (hb.cell (p := ⟨g, 1, none⟩) hg).trans d1
  have s0 := H0.out.below hb
  have s1 := H1.out.below hb
  have hz := hb.size
  have HO := Lib.hid hown
  have HB := Lib.hid hb
  have S0 := Lib.hid s0
  have S1 := Lib.hid s1
  clear d0 d1 hown hb s0 s1
  refine wp_loop_rounds 3 ?_
  rw [rounds_succ]
  go_wp2_with (at_builtin; refine wpList_app rfl _ _ rfl w.heap.size v 0 [] rfl HO.out _ rfl l0 _ S0.out C0.out (by omega) hz ?_; intro v1 w2 hown2 hg2)
  have hB2 : Below w.heap.size w w2 := HB.out.grown hg2 hz (fun r e => (HO.out.lt r e).1)
  have e2 := (hB2.cell (p := ⟨g, 1, none⟩) hg).trans ((HB.out.cell (p := ⟨g, 1, none⟩) hg).symm.trans e1)
  have s2 := H1.out.below hB2
  have hz2 := hB2.size
  have HO2 := Lib.hid hown2
  have HB2 := Lib.hid hB2
  have S2 := Lib.hid s2
  clear e0 e1 hown2 hg2 hB2 s2 HO HB S0 S1
  rw [rounds_succ]
  go_wp2_with (at_builtin; refine wpList_app rfl _ _ rfl w.heap.size v1 (0 + l0.length) ([] ++ l0) rfl HO2.out _ rfl l1 _ S2.out C1.out (by omega) hz2 ?_; intro v2 w3 hown3 hg3)
  have hB3 : Below w.heap.size w w3 := HB2.out.grown hg3 hz2 (fun r e => (HO2.out.lt r e).1)
  obtain ⟨q1, q2⟩ := own_slB hown3 (by simp only [List.nil_append, List.length_append]; omega) (by simp only [List.nil_append, List.length_append]; omega)
  have Q1 := Lib.hid q1
  have Q2 := Lib.hid q2
  have Q3 := Lib.hid hB3
  clear hown3 hg3 HO2 HB2 S2 e2 hB3 q1 q2
  rw [rounds_succ]
  go_wp2_with fail
  go_ret
  exact ⟨_, rfl, Q1.out, Q2.out, Q3.out⟩
/-- the bytes of a string -/
def sb (s : ByteArray) : List B := s.data.toList.map fun c => BitVec.ofNat 8 c.toNat
theorem sb_length (s : ByteArray) : (sb s).length = s.size := by unfold sb; rw [List.length_map, Array.length_toList]; rfl
theorem str_slB (w : World) (s : ByteArray) (C : Nat) (h1 : s.size ≤ C) (h2 : C ≤ maxLen) (fr : Nat × Nat) :
    SlB (w.drew.alloc (.cells (bytesRow s C) 5 fr)) (w.heap.size + 1) (.slice (some ⟨w.heap.size, 0, none⟩) s.size C) (sb s) ∧ capB (.slice (some ⟨w.heap.size, 0, none⟩) s.size C) := by
  unfold maxLen at h2
  refine ⟨⟨by rw [sb_length]; omega, _, _, by rw [sb_length], fun hp => ⟨w.heap.size, 0, rfl, by omega, fun i hi j hj => ?_⟩⟩, _, _, _, rfl, h1, h2, fun h => by cases h⟩
  obtain rfl : j = 0 := by omega
  have hi' : i < s.data.size := by rw [sb_length] at hi; exact hi
  have hh : (w.drew.alloc (.cells (bytesRow s C) 5 fr)).heap[w.heap.size]? = some (.cells (bytesRow s C) 5 fr) := World.alloc_heap_new w.drew _
  rw [Nat.mul_one, Nat.add_zero, Nat.zero_add]
  simp only [World.cell?, hh]
  rw [bytesRow_at s C i hi']
  have e : (sb s).getD i default = BitVec.ofNat 8 s.data[i].toNat := by
    unfold sb
    rw [List.getD_eq_getElem?_getD, List.getElem?_map, List.getElem?_eq_getElem (by simpa using hi')]
    simp
  rw [e]
  show some _ = some (bv _)
  unfold bv bn
  rw [BitVec.toNat_ofNat, Nat.mod_eq_of_lt (by have := s.data[i].toNat_lt; omega)]
/-- a string turned into bytes -/
theorem str_conv (s : ByteArray) (W0 : World) (hs : s.size ≤ 1099511627000) :
    ∃ V W1, (convert 9 155 (.string s)).run Tryz.prog W0 = .ok V W1 ∧ SlB W1 W1.heap.size V (sb s) ∧ capB V ∧ Below W0.heap.size W0 W1 := by
  have hr := run_bytes_of_string (P := Tryz.prog) W0 9 155 5 s Tryz.underlying9 Tryz.underlying155 Tryz.underlying5
  have h1 := grownCap_ge W0 s.size 0 5
  have h2 := grownCap_le_maxLen W0 s.size 0 5 (by unfold maxLen; omega)
  obtain ⟨a, b⟩ := str_slB W0 s _ h1 h2 ((bytesRow s (grownCap W0 s.size 0 5)).size, (bytesRow s (grownCap W0 s.size 0 5)).size + 1)
  exact ⟨_, _, hr, a.mono (by simp), b, (Below.refl _ W0).drew.alloc (Nat.le_refl _) _⟩
theorem setRow_new (W : World) (cs cs' : Array Value) (t : TypeId) : (W.alloc (.cells cs t)).setRow W.heap.size cs' = W.alloc (.cells cs' t) := by
  have h : ∀ (a : Array Obj) (x : Obj) (f : Obj → Obj), (a.push x).modify a.size f = a.push (f x) := by
    intro a x f
    apply Array.ext
    · simp
    · intro i h1 h2
      rw [Array.getElem_modify, Array.getElem_push, Array.getElem_push]
      by_cases e : a.size = i
      · subst e; simp
      · rw [if_neg e]
        have : i < a.size := by simp at h1; omega
        simp [this]
  unfold World.setRow World.alloc
  simp only [h]
/-- 32 bytes laid into a new block -/
theorem store32 (xs : List B) (h : xs.length = 32) (W : World) : (storeCells ⟨W.heap.size, 0, none⟩ (xs.map bv)).run Tryz.prog (W.alloc (.cells #[Value.int IntKind.u8 0, Value.int IntKind.u8 0, Value.int IntKind.u8 0, Value.int IntKind.u8 0, Value.int IntKind.u8 0, Value.int IntKind.u8 0, Value.int IntKind.u8 0, Value.int IntKind.u8 0, Value.int IntKind.u8 0, Value.int IntKind.u8 0, Value.int IntKind.u8 0, Value.int IntKind.u8 0, Value.int IntKind.u8 0, Value.int IntKind.u8 0, Value.int IntKind.u8 0, Value.int IntKind.u8 0, Value.int IntKind.u8 0, Value.int IntKind.u8 0, Value.int IntKind.u8 0, Value.int IntKind.u8 0, Value.int IntKind.u8 0, Value.int IntKind.u8 0, Value.int IntKind.u8 0, Value.int IntKind.u8 0, Value.int IntKind.u8 0, Value.int IntKind.u8 0, Value.int IntKind.u8 0, Value.int IntKind.u8 0, Value.int IntKind.u8 0, Value.int IntKind.u8 0, Value.int IntKind.u8 0, Value.int IntKind.u8 0] 34)) = .ok () (W.alloc (.cells (xs.map bv).toArray 34)) := by
  have := run_storeCells_from (P := Tryz.prog) W.heap.size 34 (xs.map bv) 0 #[Value.int IntKind.u8 0, Value.int IntKind.u8 0, Value.int IntKind.u8 0, Value.int IntKind.u8 0, Value.int IntKind.u8 0, Value.int IntKind.u8 0, Value.int IntKind.u8 0, Value.int IntKind.u8 0, Value.int IntKind.u8 0, Value.int IntKind.u8 0, Value.int IntKind.u8 0, Value.int IntKind.u8 0, Value.int IntKind.u8 0, Value.int IntKind.u8 0, Value.int IntKind.u8 0, Value.int IntKind.u8 0, Value.int IntKind.u8 0, Value.int IntKind.u8 0, Value.int IntKind.u8 0, Value.int IntKind.u8 0, Value.int IntKind.u8 0, Value.int IntKind.u8 0, Value.int IntKind.u8 0, Value.int IntKind.u8 0, Value.int IntKind.u8 0, Value.int IntKind.u8 0, Value.int IntKind.u8 0, Value.int IntKind.u8 0, Value.int IntKind.u8 0, Value.int IntKind.u8 0, Value.int IntKind.u8 0, Value.int IntKind.u8 0] (W.alloc (.cells #[Value.int IntKind.u8 0, Value.int IntKind.u8 0, Value.int IntKind.u8 0, Value.int IntKind.u8 0, Value.int IntKind.u8 0, Value.int IntKind.u8 0, Value.int IntKind.u8 0, Value.int IntKind.u8 0, Value.int IntKind.u8 0, Value.int IntKind.u8 0, Value.int IntKind.u8 0, Value.int IntKind.u8 0, Value.int IntKind.u8 0, Value.int IntKind.u8 0, Value.int IntKind.u8 0, Value.int IntKind.u8 0, Value.int IntKind.u8 0, Value.int IntKind.u8 0, Value.int IntKind.u8 0, Value.int IntKind.u8 0, Value.int IntKind.u8 0, Value.int IntKind.u8 0, Value.int IntKind.u8 0, Value.int IntKind.u8 0, Value.int IntKind.u8 0, Value.int IntKind.u8 0, Value.int IntKind.u8 0, Value.int IntKind.u8 0, Value.int IntKind.u8 0, Value.int IntKind.u8 0, Value.int IntKind.u8 0, Value.int IntKind.u8 0] 34)) (World.alloc_heap_new W _) (by simp [h]) (fun v hv => by obtain ⟨y, _, rfl⟩ := List.mem_map.1 hv; rfl)
  rw [this, List.take_zero, List.nil_append, setRow_new]
theorem flat_b (l : List B) : l.flatMap encB = l.map bv := by
  induction l with
  | nil => rfl
  | cons x l ih => rw [List.flatMap_cons, ih]; rfl
/-- 32 bytes laid over a block of 32 -/
theorem store_old (xs : List B) (h : xs.length = 32) {W : World} {g : Nat} {vs : List Value} (hR : Row W g 34 vs) (hv : vs.length = 32 := by simp) : (storeCells ⟨g, 0, none⟩ (xs.map bv)).run Tryz.prog W = .ok () (W.setRow g (xs.map bv).toArray) := by
  have := run_storeCells_from (P := Tryz.prog) g 34 (xs.map bv) 0 vs.toArray W hR (by simp [h, hv]) (fun v hv => by obtain ⟨y, _, rfl⟩ := List.mem_map.1 hv; rfl)
  rw [this, List.take_zero, List.nil_append]
set_option maxRecDepth 100000 in
set_option maxHeartbeats 2000000 in
theorem tagged_any (s : ByteArray) (l : List B) (v : Value) (w : World) (h : SlB w w.heap.size v l) (hc : capB v) (hl : l.length ≤ 1099511627000) (hs : s.size ≤ 1099511627000) (hT : Tab w) (hz : 1 < w.heap.size ∧ 0 < w.heap.size) :
    Calls Tryz.prog 115 #[.string s, v] w fun e w' => e = .returned (.agg ((tagged (sb s) l).map bv).toArray) ∧ Below w.heap.size w w' := by
  have HS := Lib.hid h
  have HC := Lib.hid hc
  have HT := Lib.hid hT
  obtain ⟨A, n, c, rfl, _⟩ := hc
  obtain rfl : n = l.length := by obtain ⟨_, _, _, hv, _⟩ := h; injection hv
  obtain ⟨hz1, hz2⟩ := hz
  clear h hT
  go_enter Tryz.func115, Tryz.ntmps115
  go_upto_region 1 with (fail)
  obtain ⟨W0, hW0⟩ : ∃ W0 : World, w.alloc (.cells (List.replicate 32 (Value.int IntKind.u8 0)).toArray 34) = W0 := ⟨_, rfl⟩
  have hD0 : Row W0 w.heap.size 34 (List.replicate 32 (.int .u8 0)) := by rw [← hW0]; exact Row.new w _ _
  have hB0 : Below w.heap.size w W0 := by rw [← hW0]; exact (Below.refl _ w).alloc (Nat.le_refl _) _
  have hz0 : W0.heap.size = w.heap.size + 1 := by rw [← hW0]; simp
  refine (show _ = W0 from hW0) ▸ ?_
  clear hW0
  obtain ⟨V, W1, hrun, hV, hcV, hb1⟩ := str_conv s W0 hs
  have hD1 := Row.keep hD0 (hb1.block _ (by omega))
  have hB1 := hB0.trans (hb1.mono (by omega))
  have hs1 := sum_any (sb s) V W1 hV (by rw [sb_length]; omega) hcV (HT.out.keep ⟨hz1, hz2⟩ hB1.block) (by have := hb1.size; omega)
  have hst := fun W => store32 (sum (sb s)) (sum_length _) W
  have HS1 := Lib.hid hs1
  clear hs1 hV hcV hD0 hB0
  go_wp2_with (go_at_call 143; (with_reducible refine HS1.out.mono ?_); rintro e W2 ⟨rfl, hb2⟩)
  have hB2 := hB1.trans (hb2.mono hB1.size)
  have hD2 := Row.keep hD1 (hb2.block _ (Row.lt hD1))
  have hz2' := Row.lt hD2
  obtain ⟨W3, hW3⟩ : ∃ W3 : World, (W2.alloc (.cells ((sum (sb s)).map bv).toArray 34)).alloc (.cells #[.slice (some ⟨W2.heap.size, 0, none⟩) 32 32, .slice A l.length c] 155) = W3 := ⟨_, rfl⟩
  have hB3 : Below w.heap.size w W3 := by rw [← hW3]; exact (hB2.alloc hB2.size _).alloc (by have := hB2.size; simp; omega) _
  have hD3 : Row W3 w.heap.size 34 (List.replicate 32 (.int .u8 0)) := by rw [← hW3]; exact Row.alloc (Row.alloc hD2 _) _
  have hR3 : Row W3 (W2.heap.size + 1) 155 [.slice (some ⟨W2.heap.size, 0, none⟩) 32 32, .slice A l.length c] := by rw [← hW3]; exact row_at' (by simp) _ _
  have hz3 : W3.heap.size = W2.heap.size + 2 := by rw [← hW3]; simp
  have hT3 : Row W3 W2.heap.size 34 ((sum (sb s)).map bv) := by rw [← hW3]; exact Row.alloc (Row.new W2 _ _) _
  have hsl : SlB W3 W3.heap.size (.slice (some ⟨W2.heap.size, 0, none⟩) 32 32) (sum (sb s)) := by
    have := Row.sl (c := 32) (m := 1) (enc := encB) (l := sum (sb s)) (by rw [flat_b]; exact hT3) (fun _ => rfl) (by rw [sum_length]; omega) (show W2.heap.size < W3.heap.size by omega)
    rwa [sum_length] at this
  rw [hW3]
  have hcc := concat_any (sum (sb s)) l _ _ (W2.heap.size + 1) _ W3 hR3 hsl ((HS.out.below hB3).mono hB3.size) ⟨_, _, _, rfl, Nat.le_refl _, by omega, fun h => by cases h⟩ HC.out (by rw [sum_length]; omega)
  have HCC := Lib.hid hcc
  clear hcc hsl hT3 hR3 hW3 hD1 hB1 hb1 hb2 hD2 hB2 hst HS1
  refine HCC.out.mono ?_
  rintro e W4 ⟨V4, rfl, hV4, hcV4, hb4⟩
  have hB4 := hB3.trans (hb4.mono hB3.size)
  have hD4 := Row.keep hD3 (hb4.block _ (Row.lt hD3))
  have hs5 := sum_any (sum (sb s) ++ l) V4 W4 hV4 (by rw [List.length_append, sum_length]; omega) hcV4 (HT.out.keep ⟨hz1, hz2⟩ hB4.block) (by have := hB4.size; omega)
  have HS5 := Lib.hid hs5
  clear hs5 hV4 hcV4 hb4 hD3 hB3 HCC
  go_wp2_with fail
  refine HS5.out.mono ?_
  rintro e W5 ⟨rfl, hb5⟩
  have hD5 := Row.keep hD4 (hb5.block _ (Row.lt hD4))
  have hst5 := store_old (sum (sum (sb s) ++ l)) (sum_length _) hD5
  have hB5 := hB4.trans (hb5.mono hB4.size)
  have hlen := sum_length (sum (sb s) ++ l)
  have hR5 : Row (W5.setRow w.heap.size ((sum (sum (sb s) ++ l)).map bv).toArray) w.heap.size 34 ((sum (sum (sb s) ++ l)).map bv) := setRow_heap W5 _ _ _ _ _ hD5
  have hB6 : Below w.heap.size w (W5.setRow w.heap.size ((sum (sum (sb s) ++ l)).map bv).toArray) := below_setRow hB5 (Nat.le_refl _) _
  generalize W5.setRow w.heap.size ((sum (sum (sb s) ++ l)).map bv).toArray = W6 at *
  clear hB5 hb5 hD4 hB4 hrun hz0 hz3 HS5 hD5
  have HR5 := Lib.hid hR5
  have HB6 := Lib.hid hB6
  have HL := Lib.hid hlen
  clear hR5 hB6 hlen
  go_wp2_with fail
  have hinf : (Tryz.prog.info? 34).map (·.size) = some 32 := by kernel_rfl
  exact bodyPost_ret (v := .agg ((sum (sum (sb s) ++ l)).map bv).toArray) (results_cell_row (g := w.heap.size) (t := 34) (fr := (0, 0)) rfl _ W6 _ _ rfl HR5.out Tryz.underlying34 rfl (by rw [hinf]; simp [HL.out])) rfl ⟨rfl, HB6.out⟩
end Go.Proofs.YthckledagggoiaaGreatDoor

namespace Go.Proofs.YthckledagggoiaaGreatDoor
open Go.RowKit Fk Sha
/-! A number from a hash. -/
/-- the k-th byte, the first one without its highest bit -/
def hb (d : List B) (k : Nat) : Nat := if k = 0 then (d.getD 0 0).toNat % 128 else (d.getD k 0).toNat
def hnum (d : List B) : Nat → Nat
  | 0 => 0
  | k + 1 => hnum d k * 256 + hb d k
def hashN (d : List B) : Int := ((hnum d 8 % 1073741789 : Nat) : Int)
theorem hb_lt (d : List B) (k : Nat) : hb d k < 256 := by
  unfold hb; split
  · omega
  · exact (d.getD k 0).isLt
theorem hnum_lt (d : List B) : ∀ k, hnum d (k + 1) < 128 * 256 ^ k
  | 0 => by simp [hnum, hb]; omega
  | k + 1 => by
    have := hnum_lt d k
    have h2 := hb_lt d (k + 1)
    show hnum d (k + 1) * 256 + hb d (k + 1) < _
    rw [Nat.pow_succ]
    omega
theorem hnum_bd (d : List B) {k : Nat} (h : k ≤ 8) : hnum d k < 9223372036854775808 ∧ (k < 8 → hnum d k < 36028797018963968) := by
  cases k with
  | zero => exact ⟨by simp [hnum], fun _ => by simp [hnum]⟩
  | succ k =>
    have h1 := hnum_lt d k
    rcases (show k = 0 ∨ k = 1 ∨ k = 2 ∨ k = 3 ∨ k = 4 ∨ k = 5 ∨ k = 6 ∨ k = 7 by omega) with rfl | rfl | rfl | rfl | rfl | rfl | rfl | rfl <;> (simp only [Nat.reducePow, Nat.reduceMul] at h1; exact ⟨by omega, fun _ => by omega⟩)
theorem wraps_i64 (n : Int) (h₀ : 0 ≤ n) (h₁ : n < 2 ^ 63) : IntKind.i64.wrap n = n := by
  rw [IntKind.wrap_i64]; have : (2 : Int) ^ 63 = 9223372036854775808 := by decide
  omega
theorem or_byte (n c : Int) (h0 : 0 ≤ n) (h1 : n < 36028797018963968) (h2 : 0 ≤ c) (h3 : c < 256) : bits .or .i64 (n * 256) c = n * 256 + c := by
  have e63 : (2 : Int) ^ 63 = 9223372036854775808 := by decide
  have e8 : (2 : Int) ^ 8 = 256 := by decide
  exact bits_join .i64 63 (by decide) wraps_i64 8 (n * 256) c (by omega) (by rw [e8]; omega) (by rw [e63]; omega) h2 (by rw [e8]; exact h3) (by rw [e63]; omega)
theorem and_127 (x : Int) (h0 : 0 ≤ x) (h1 : x < 256) : bits .and .u8 x 127 = x % 128 := bits_mask .u8 8 (by decide) wraps_u8 7 (by decide) x h0 h1
set_option maxRecDepth 100000 in
set_option maxHeartbeats 2000000 in
theorem hash_any (s : ByteArray) (l : List B) (v : Value) (w : World) (h : SlB w w.heap.size v l) (hc : capB v) (hl : l.length ≤ 1099511627000) (hs : s.size ≤ 1099511627000) (hT : Tab w) (hz : 1 < w.heap.size ∧ 0 < w.heap.size) :
    Calls Tryz.prog 106 #[.string s, v] w fun e w' => e = .returned (.int .i64 (hashN (tagged (sb s) l))) ∧ Below w.heap.size w w' := by
  have ht := tagged_any s l v w h hc hl hs hT hz
  have hlen := tagged_length (sb s) l
  obtain ⟨D, hD⟩ : ∃ D, tagged (sb s) l = D := ⟨_, rfl⟩
  rw [hD] at ht hlen ⊢
  have hst := fun W => store32 D hlen W
  have HT := Lib.hid ht
  have HL := Lib.hid hlen
  clear ht hD h hc hT hlen
  go_enter Tryz.func106, Tryz.ntmps106
  go_upto_region 2 with (go_at_call 115; (with_reducible refine HT.out.mono ?_); rintro e W1 ⟨rfl, hb1⟩)
  have hR2 : Row (W1.alloc (.cells (D.map bv).toArray 34)) W1.heap.size 34 (D.map bv) := Row.new W1 _ _
  have hB2 : Below w.heap.size w (W1.alloc (.cells (D.map bv).toArray 34)) := hb1.alloc hb1.size _
  have hzg : w.heap.size ≤ W1.heap.size := hb1.size
  generalize W1.alloc (.cells (D.map bv).toArray 34) = W2 at *
  generalize W1.heap.size = g at *
  have d0 : W2.cell? ⟨g, 0, none⟩ = some (.int .u8 (bn (D.getD 0 0))) := (Row.cell hR2 0).trans (by rw [List.getElem?_map, List.getD_eq_getElem?_getD, List.getElem?_eq_getElem (by rw [HL.out]; omega)]; rfl)
  have f0 := Row.frozen hR2 0
  obtain ⟨b0, b1⟩ := bn_bd (D.getD 0 0)
  have hand := and_127 _ b0 b1
  have hR3 := Row.store hR2 0 (.int .u8 (bn (D.getD 0 0) % 128))
  have hB3 := hB2.setCell (p := ⟨g, 0, none⟩) hzg (.int .u8 (bn (D.getD 0 0) % 128))
  have hcell : ∀ k, k < 8 → ((D.map bv).set 0 (.int .u8 (bn (D.getD 0 0) % 128)))[k]? = some (.int .u8 (hb D k : Int)) := by
    intro k hk
    rw [List.getElem?_set]
    by_cases e : 0 = k
    · subst e
      rw [if_pos rfl, if_pos (by rw [List.length_map, HL.out]; omega)]
      unfold hb bn; rw [if_pos rfl]; rfl
    · rw [if_neg e, List.getElem?_map, List.getElem?_eq_getElem (by rw [HL.out]; omega)]
      unfold hb; rw [if_neg (Ne.symm e), List.getD_eq_getElem?_getD, List.getElem?_eq_getElem (by rw [HL.out]; omega)]; rfl
  have HC := Lib.hid hcell
  have H3 := Lib.hid hR3
  have HB := Lib.hid hB3
  generalize bn (D.getD 0 0) = x at *
  clear hR2 hB2 hcell hR3 hB3 hb1 HT hst
  go_wp2_with fail
  clear d0 f0 b0 b1 hand
  go_loopg [4, 14] 8 (fun gk n i wr => W2.setCell ⟨g, 0, none⟩ (.int .u8 (x % 128)) = wr ∧ ∃ k : Nat, i = .int .i64 k ∧ k + gk = 8 ∧ n = .int .i64 (hnum D k : Int))
  case atStart => exact ⟨rfl, 0, rfl, rfl, rfl⟩
  case round =>
    obtain ⟨rfl, k, rfl, hk, rfl⟩ := hrel
    by_cases hlt : k < 8
    · have dk := (Row.cell H3.out k).trans (HC.out k hlt)
      obtain ⟨q0, q1⟩ := hnum_bd D (k := k) (by omega)
      have q1 := q1 hlt
      have q2 := hb_lt D k
      have ho := or_byte (hnum D k) (hb D k) (by omega) (by omega) (by omega) (by omega)
      have hn : (hnum D (k + 1) : Int) = (hnum D k : Int) * 256 + (hb D k : Int) := by show ((hnum D k * 256 + hb D k : Nat) : Int) = _; omega
      have HN := Lib.hid hn
      clear hn q0
      have hi : (0 : Int) ≤ (hnum D k : Int) := by omega
      have hj : (hnum D k : Int) < 36028797018963968 := by omega
      have hj2 : (0 : Int) ≤ (hb D k : Int) := by omega
      have hj3 : (hb D k : Int) < 256 := by omega
      generalize (hnum D k : Int) = n at *
      generalize (hb D k : Int) = c at *
      go_wp2_with fail
      go_roundg (gk - 1)
      case measure => omega
      case rel => exact ⟨rfl, k + 1, by go_num, by omega, by rw [HN.out]⟩
    · obtain rfl : k = 8 := by omega
      obtain ⟨q0, _⟩ := hnum_bd D (k := 8) (by omega)
      have hi : (0 : Int) ≤ (hnum D 8 : Int) := by omega
      go_wp2_with fail
      go_ret
      exact ⟨rfl, HB.out⟩
end Go.Proofs.YthckledagggoiaaGreatDoor

set_option linter.unusedSimpArgs false
set_option linter.unusedVariables false
namespace Sha
/-! Numerals of an encoding. -/
def numeral (u : Nat) : List B := if u < 128 then [BitVec.ofNat 8 u] else BitVec.ofNat 8 (u % 128 + 128) :: numeral (u / 128)
termination_by u
decreasing_by omega
theorem numeral_small {u : Nat} (h : u < 128) : numeral u = [BitVec.ofNat 8 u] := by rw [numeral, if_pos h]
theorem numeral_big {u : Nat} (h : ¬ u < 128) : numeral u = BitVec.ofNat 8 (u % 128 + 128) :: numeral (u / 128) := by rw [numeral, if_neg h]
theorem numeral_length : ∀ (k u : Nat), u < 128 ^ (k + 1) → (numeral u).length ≤ k + 1
  | 0, u, h => by rw [numeral_small (by simpa using h)]; simp
  | k + 1, u, h => by
    by_cases hu : u < 128
    · rw [numeral_small hu]; simp
    · rw [numeral_big hu, List.length_cons]
      have := numeral_length k (u / 128) (by rw [Nat.div_lt_iff_lt_mul (by omega)]; rw [Nat.pow_succ] at h; omega)
      omega
end Sha
namespace Go.Proofs.YthckledagggoiaaGreatDoor
open Go.RowKit Sha
abbrev ownB (w : World) (v : Value) (l : List B) : Prop := w.ownsRow 0 5 1 v l.length (l.map bv)
theorem infoB4 : (Tryz.prog.info? 5).map (fun i => (i.zero, i.size, i.bytes)) = some (some (.int .u8 0), 1, 1) := by kernel_rfl
theorem cell_one_newB (w : World) (x : Value) (t : TypeId) : ∀ j u, [x][j]? = some u → (w.alloc (.cells #[x] t)).cell? ((⟨w.heap.size, 0, none⟩ : Addr).add j) = some u := by
  intro j u hj
  match j, hj with
  | 0, hj => simp at hj; subst hj; simp [Addr.add]
  | (j + 1), hj => simp at hj
/-- from w to w' only v's own block changed; what v became lies there or in a new block -/
structure Grew (w w' : World) (v v' : Value) : Prop where
  g : w.grownBy w' v.ownBlock
  o : v'.ownBlock = v.ownBlock ∨ ∃ k, v'.ownBlock = some k ∧ w.heap.size ≤ k
theorem Grew.refl (w : World) (v : Value) : Grew w w v v := ⟨⟨rfl, rfl, rfl, Nat.le_refl _, fun _ _ _ => rfl⟩, .inl rfl⟩
theorem Grew.trans {a b c : World} {u v x : Value} (h : Grew a b u v) (k : Grew b c v x) : Grew a c u x := by
  have hs := h.g.size
  refine ⟨⟨k.g.os.trans h.g.os, k.g.tape.trans h.g.tape, k.g.output.trans h.g.output, Nat.le_trans hs k.g.size, fun i hi hn => ?_⟩, ?_⟩
  · refine (k.g.block i (by omega) ?_).trans (h.g.block i hi hn)
    rcases h.o with e | ⟨j, e, hj⟩
    · rw [e]; exact hn
    · rw [e]; intro e2; injection e2 with e2; omega
  · rcases k.o with e | ⟨j, e, hj⟩
    · rw [e]; exact h.o
    · exact .inr ⟨j, e, by omega⟩
theorem Grew.alloc (w : World) (v : Value) (o : Obj) : Grew w (w.alloc o) v v := ⟨World.grownBy_alloc w o _, .inl rfl⟩
theorem Grew.drew {w w' : World} {v v' : Value} (h : Grew w w' v v') : Grew w w'.drew v v' := ⟨⟨h.g.os, h.g.tape, h.g.output, h.g.size, h.g.block⟩, h.o⟩
theorem Grew.lies {w w' : World} {v : Value} {g n c : Nat} (h : w.grownBy w' v.ownBlock) (hat : v.ownBlock = some g ∨ g = w.heap.size) : Grew w w' v (.slice (some ⟨g, 0, none⟩) n c) :=
  ⟨h, hat.elim (fun e => .inl e.symm) (fun e => .inr ⟨g, rfl, by omega⟩)⟩
theorem Grew.below {w w' : World} {v v' : Value} {n : Nat} (h : Grew w w' v v') (hn : n ≤ w.heap.size) (ho : ∀ k, v.ownBlock = some k → n ≤ k) : Below n w w' :=
  ⟨h.g.os, h.g.tape, h.g.output, h.g.size, fun k hk => h.g.block k (by omega) (fun e => by have := ho k e.symm; omega)⟩
theorem Grew.cell {w w' : World} {v v' : Value} (h : Grew w w' v v') {a : Addr} {x : Value} (hc : w.cell? a = some x) (hlt : a.block < w.heap.size) (hn : v.ownBlock ≠ some a.block) : w'.cell? a = some x :=
  (h.g.cell_far a hlt (fun e => hn e.symm)).trans hc
theorem ofNat_bn (n : Nat) : bn (BitVec.ofNat 8 n) = ((n % 256 : Nat) : Int) := by
  unfold bn; rw [BitVec.toNat_ofNat]
set_option maxRecDepth 100000 in
theorem or_128 (n : Nat) : (n % 256) ||| 128 = n % 128 + 128 := by
  have h : ∀ m : Fin 256, (m.val ||| 128) = m.val % 128 + 128 := by decide
  have h2 := h ⟨n % 256, Nat.mod_lt _ (by omega)⟩
  simp only at h2
  rw [h2]
  omega
theorem cod_or_byte (n : Nat) : bits .or .u8 ((n : Int) % 256) 128 = bn (BitVec.ofNat 8 (n % 128 + 128)) := by
  show IntKind.u8.wrap ((BitVec.ofInt 8 ((n : Int) % 256) ||| BitVec.ofInt 8 ((128 : Nat) : Int)).toNat : Int) = _
  rw [show ((n : Int) % 256) = ((n % 256 : Nat) : Int) by omega, BitVec.ofInt_natCast, BitVec.ofInt_natCast, BitVec.toNat_or, BitVec.toNat_ofNat, BitVec.toNat_ofNat, ofNat_bn]
  rw [show n % 256 % 2 ^ 8 = n % 256 by omega, show 128 % 2 ^ 8 = 128 by rfl, or_128, IntKind.wrap_u8]
  omega
theorem byte_small {n : Nat} (h : n < 128) : (n : Int) = bn (BitVec.ofNat 8 n) := by rw [ofNat_bn]; omega
theorem ownB_snoc {W : World} {v : Value} {a : List B} {c : B} {x : Value} (h : W.ownsRow 0 5 1 v (a.length + 1) (a.map bv ++ [x])) (hx : x = bv c) : ownB W v (a ++ [c]) := by
  unfold ownB
  rw [List.map_append, List.length_append]
  rw [hx] at h
  exact h
set_option maxRecDepth 100000 in
set_option maxHeartbeats 2000000 in
theorem numeral_any (l : List B) (v : Value) (u : Nat) (hu : u < 9223372036854775808) (w : World) (h : ownB w v l) (hl : l.length ≤ 1099511627776) :
    Calls Tryz.prog 177 #[v, .int .u64 (u : Int)] w fun e w' => ∃ v', e = .returned v' ∧ ownB w' v' (l ++ numeral u) ∧ Grew w w' v v' := by
  have hlen : (numeral u).length ≤ 9 := numeral_length 8 u (by omega)
  have HL := Lib.hid (show (l ++ numeral u).length ≤ 1099511627785 by rw [List.length_append]; omega)
  obtain ⟨R, hR⟩ : ∃ R, l ++ numeral u = R := ⟨_, rfl⟩
  have HR := Lib.hid hR
  rw [hR] at HL ⊢
  clear hlen
  obtain ⟨i0, hi, hz0, hz1, hz2⟩ := info_parts infoB4
  go_enter Tryz.func177, Tryz.ntmps177
  go_wp2_with fail
  go_loopg [0, 1] u (fun g bv' uv wr => uv = .int .u64 (g : Int) ∧ g < 9223372036854775808 ∧ Grew w wr v bv' ∧ ∃ a : List B, Hid (a ++ numeral g = R) ∧ ownB wr bv' a)
  case atStart => exact ⟨rfl, hu, Grew.refl _ _, l, hR, h⟩
  case round =>
    clear h hR hl hu
    obtain ⟨rfl, hg, hBr, a, ha, hown⟩ := hrel
    have hal : a.length ≤ 1099511627785 := by have h1 := HL.out; rw [← ha.out, List.length_append] at h1; omega
    by_cases hlt : gk < 128
    · have hd : decide ((128 : Int) ≤ (gk : Int)) = false := decide_eq_false (by omega)
      go_wp2_with (at_builtin; refine wpList_append_lies _ rfl _ _ 155 rfl 0 5 i0 (.int .u8 0) 1 1 Tryz.underlying155 hi hz0 hz1 hz2 rfl (by decide) _ _ _ rfl (hown.alloc _) ⟨wr.heap.size, 0, none⟩ 1 1 [.int .u8 ((gk : Int))] rfl rfl (cell_one_newB _ _ _) (by simp [Value.oneCell']) (by decide) (by unfold maxLen; omega) (by omega) (Nat.zero_le _) _ rfl ?_; intro g' cap' w2 hown' hgrow hat hlt')
      go_ret
      refine ⟨_, rfl, ?_, hBr.trans ((Grew.alloc _ _ _).trans (Grew.lies hgrow hat))⟩
      rw [← ha.out, numeral_small hlt]
      exact ownB_snoc hown' (congrArg (Value.int .u8) (byte_small hlt))
    · have hd : decide ((128 : Int) ≤ (gk : Int)) = true := decide_eq_true (by omega)
      go_wp2_with (at_builtin; refine wpList_append_lies _ rfl _ _ 155 rfl 0 5 i0 (.int .u8 0) 1 1 Tryz.underlying155 hi hz0 hz1 hz2 rfl (by decide) _ _ _ rfl (hown.alloc _) ⟨wr.heap.size, 0, none⟩ 1 1 [.int .u8 (bits .or .u8 ((gk : Int) % 256) 128)] rfl rfl (cell_one_newB _ _ _) (by simp [Value.oneCell']) (by decide) (by unfold maxLen; omega) (by omega) (Nat.zero_le _) _ rfl ?_; intro g' cap' w2 hown' hgrow hat hlt')
      go_roundg (gk / 128)
      case measure => omega
      case rel =>
        refine ⟨by first | rfl | go_num, by omega, hBr.trans ((Grew.alloc _ _ _).trans (Grew.lies hgrow hat)), a ++ [BitVec.ofNat 8 (gk % 128 + 128)], ?_, ownB_snoc hown' (congrArg (Value.int .u8) (cod_or_byte gk))⟩
        show _ = _
        rw [List.append_assoc, ← ha.out, numeral_big hlt]
        rfl
end Go.Proofs.YthckledagggoiaaGreatDoor

set_option linter.unusedSimpArgs false
set_option linter.unusedVariables false
namespace Go.Proofs.YthckledagggoiaaGreatDoor
open Go.RowKit Fk Sha
theorem xor_zero64 {n : Nat} (h : n < 18446744073709551616) : bits .xor .u64 (n : Int) 0 = (n : Int) := by
  show IntKind.u64.wrap ((BitVec.ofInt 64 (n : Int) ^^^ BitVec.ofInt 64 0).toNat : Int) = _
  rw [show BitVec.ofInt 64 0 = 0#64 from rfl, BitVec.xor_zero, BitVec.ofInt_natCast, BitVec.toNat_ofNat, IntKind.wrap_u64]
  omega
set_option maxRecDepth 100000 in
set_option maxHeartbeats 1000000 in
theorem unsigned_any (n : Nat) (hn : n < 4611686018427387904) (w : World) :
    Calls Tryz.prog 178 #[.int .i64 (n : Int)] w fun e w' => e = .returned (.int .u64 ((2 * n : Nat) : Int)) ∧ w' = w := by
  have hx : bits .xor .u64 ((n : Int) * 2) 0 = ((2 * n : Nat) : Int) := by rw [show (n : Int) * 2 = ((2 * n : Nat) : Int) by omega]; exact xor_zero64 (by omega)
  have h63 : (n : Int) / 9223372036854775808 = 0 := by omega
  have hm : (n : Int) % 18446744073709551616 = n := by omega
  have hm2 : (n : Int) * 2 % 18446744073709551616 = ((2 * n : Nat) : Int) := by omega
  go_enter Tryz.func178, Tryz.ntmps178
  go_wp2_with fail
  go_ret
  exact ⟨congrArg (fun x => Ending.returned (.int .u64 x)) (show (2 * (n : Int)) = ((2 * n : Nat) : Int) by omega), rfl⟩
/-- the writer: its table in block b, the variable that holds it in block b + 1 -/
structure Wtr (w : World) (b : Nat) : Prop where
  tab : Row w b 227 [.nilFunc, .func (Fn.func 176) #[] #[], .func (Fn.func 179) #[] #[], .func (Fn.func 180) #[] #[.pointer (some ⟨b + 1, 0, none⟩)]]
  var : Row w (b + 1) 202 [.pointer (some ⟨b, 0, none⟩)]
theorem st4 {W : World} {b : Nat} {t : TypeId} {a0 a1 a2 a3 : Value} (h : Row W b t [a0, a1, a2, a3]) : W.cell? ⟨b, 0, none⟩ = some a0 ∧ W.cell? ⟨b, 1, none⟩ = some a1 ∧ W.cell? ⟨b, 2, none⟩ = some a2 ∧ W.cell? ⟨b, 3, none⟩ = some a3 :=
  ⟨Row.cell h 0, Row.cell h 1, Row.cell h 2, Row.cell h 3⟩
theorem st1c {W : World} {b : Nat} {t : TypeId} {a0 : Value} (h : Row W b t [a0]) : W.cell? ⟨b, 0, none⟩ = some a0 := Row.cell h 0
set_option maxRecDepth 100000 in
set_option maxHeartbeats 1000000 in
theorem newWriter_any (w : World) :
    Calls Tryz.prog 159 #[] w fun e w' => e = .returned (.pointer (some ⟨w.heap.size, 0, none⟩)) ∧ Wtr w' w.heap.size ∧ Below w.heap.size w w' := by
  go_enter Tryz.func159, Tryz.ntmps159
  go_upto_region 2 with fail
  have r0 := (Row.new w 227 [Value.nilFunc, .nilFunc, .nilFunc, .nilFunc]).alloc (.cells #[Value.pointer (some ⟨w.heap.size, 0, none⟩)] 202)
  have r1 := Row.new (w.alloc (.cells #[Value.nilFunc, .nilFunc, .nilFunc, .nilFunc] 227)) 202 [Value.pointer (some ⟨w.heap.size, 0, none⟩)]
  have hB := ((Below.refl w.heap.size w).alloc (Nat.le_refl _) (.cells #[Value.nilFunc, .nilFunc, .nilFunc, .nilFunc] 227)).alloc (by simp) (.cells #[Value.pointer (some ⟨w.heap.size, 0, none⟩)] 202)
  rw [show (w.alloc (.cells #[Value.nilFunc, .nilFunc, .nilFunc, .nilFunc] 227)).heap.size = w.heap.size + 1 by simp] at r1
  obtain ⟨W0, hW0⟩ : ∃ W0, (w.alloc (.cells #[Value.nilFunc, .nilFunc, .nilFunc, .nilFunc] 227)).alloc (.cells #[Value.pointer (some ⟨w.heap.size, 0, none⟩)] 202) = W0 := ⟨_, rfl⟩
  have r0' : Row W0 w.heap.size 227 [.nilFunc, .nilFunc, .nilFunc, .nilFunc] := hW0 ▸ r0
  have r1' : Row W0 (w.heap.size + 1) 202 [.pointer (some ⟨w.heap.size, 0, none⟩)] := hW0 ▸ r1
  have hB' : Below w.heap.size w W0 := hW0 ▸ hB
  rw [hW0]
  clear hW0 r0 r1 hB
  have b0 := r0'.lt
  have b1 := r1'.lt
  obtain ⟨c0, c1, c2, c3⟩ := st4 r0'
  have e := st1c r1'
  have f1 := Row.frozen r0' 1
  have f2 := Row.frozen r0' 2
  have f3 := Row.frozen r0' 3
  go_wp2_with fail
  go_ret
  have hne : w.heap.size + 1 ≠ w.heap.size := by omega
  refine ⟨rfl, ⟨Row.store (Row.store (Row.store r0' 1 _) 2 _) 3 _, Row.other (Row.other (Row.other r1' hne _) hne _) hne _⟩, ((hB'.setCell ?_ _).setCell ?_ _).setCell ?_ _⟩ <;> exact Nat.le_refl _
end Go.Proofs.YthckledagggoiaaGreatDoor

set_option linter.unusedSimpArgs false
set_option linter.unusedVariables false
namespace Go.Proofs.YthckledagggoiaaGreatDoor
open Go.RowKit Fk Sha

theorem below_alloc' (w : World) (o : Obj) : Below w.heap.size w (w.alloc o) := (Below.refl _ _).alloc (Nat.le_refl _) o
abbrev intV (n : Int) : Value := .agg #[.int .i64 1, .int .i64 n, .string ⟨#[]⟩, .slice none 0 0]
abbrev listV (A : Option Addr) (n c : Nat) : Value := .agg #[.int .i64 3, .int .i64 0, .string ⟨#[]⟩, .slice A n c]
def encV (n : Int) : List Value := [.int .i64 1, .int .i64 n, .string ⟨#[]⟩, .slice none 0 0]
abbrev SlV (w : World) (B0 : Nat) (v : Value) (l : List Int) : Prop := SlG 4 encV w B0 v l
set_option maxRecDepth 100000 in
set_option maxHeartbeats 2000000 in
theorem formed_int (n : Int) (w : World) :
    Calls Tryz.prog 175 #[intV n] w fun e w' => e = .returned (.tuple #[.int .i64 0, .bool true]) ∧ Below w.heap.size w w' := by
  go_enter Tryz.func175, Tryz.ntmps175
  go_wp2_with fail
  all_goals
    go_ret2
    exact ⟨rfl, ((Below.refl _ _).alloc (Nat.le_refl _) _).alloc (by simp) _⟩
theorem SlV.get {w : World} {B0 : Nat} {v : Value} {l : List Int} (h : SlV w B0 v l) {k : Nat} (hk : k < l.length) : ∃ b o c, v = .slice (some ⟨b, o, none⟩) l.length c ∧ b < B0 ∧
    w.cell? ⟨b, o + k * 4, none⟩ = some (.int .i64 1) ∧ w.cell? ⟨b, o + k * 4 + 1, none⟩ = some (.int .i64 (l.getD k default)) ∧ w.cell? ⟨b, o + k * 4 + 2, none⟩ = some (.string ⟨#[]⟩) ∧ w.cell? ⟨b, o + k * 4 + 3, none⟩ = some (.slice none 0 0) := by
  obtain ⟨_, A, c, hv, hE⟩ := h
  obtain ⟨b, o, rfl, hb, hE⟩ := hE (by omega)
  exact ⟨b, o, c, hv, hb, hE k hk 0 (by omega), hE k hk 1 (by omega), hE k hk 2 (by omega), hE k hk 3 (by omega)⟩
set_option maxRecDepth 100000 in
set_option maxHeartbeats 2000000 in
theorem formed_list (l : List Int) (A : Option Addr) (c : Nat) (w : World) (h : SlV w w.heap.size (.slice A l.length c) l) (hp : 1 ≤ l.length) :
    Calls Tryz.prog 175 #[listV A l.length c] w fun e w' => e = .returned (.tuple #[.int .i64 1, .bool true]) ∧ Below w.heap.size w w' := by
  have HS := Lib.hid h
  have hl := h.1
  clear h
  have hz : ((l.length : Int) == 0) = false := beq_eq_false_iff_ne.2 (by omega)
  go_enter Tryz.func175, Tryz.ntmps175
  go_wp2_with fail
  go_loopg [2, 57] l.length (fun g dv iv wr => dv = .int .i64 0 ∧ Below w.heap.size w wr ∧ ∃ k : Nat, iv = .int .i64 k ∧ k + g = l.length)
  case atStart => exact ⟨rfl, (Below.refl _ _).alloc (Nat.le_refl _) _ |>.alloc (by simp) _, 0, rfl, by omega⟩
  case round =>
    obtain ⟨rfl, hBr, k, rfl, hkg⟩ := hrel
    have hzr := hBr.size
    by_cases hlt : k < l.length
    · obtain ⟨b, o, c', hv, hb, d0, d1, d2, d3⟩ := SlV.get (HS.out.below hBr) hlt
      cases hv
      have s1 : (0 : Int) ≤ k := by omega
      have s2 : (k : Int) < l.length := by omega
      have hbz : b < wr.heap.size := by omega
      obtain ⟨x, hx⟩ : ∃ x, l.getD k default = x := ⟨_, rfl⟩
      rw [hx] at d1
      clear hx
      go_wp2_with (go_at_call 175; (with_reducible refine (formed_int _ _).mono ?_); rintro e wn ⟨rfl, hn⟩)
      go_roundg (gk - 1)
      case measure => omega
      case rel => exact ⟨by first | rfl | go_num, ((hBr.alloc hzr _).trans (hn.mono (by simp; omega))), k + 1, by first | rfl | go_num, by omega⟩
    · obtain rfl : k = l.length := by omega
      go_wp2_with fail
      go_ret2
      exact ⟨rfl, hBr⟩
end Go.Proofs.YthckledagggoiaaGreatDoor

/-! A region that draws its order: its head in one given order, under a condition on the world that holds till the head has ended; its tail waits for the head. -/
namespace Fk
open Go
section
variable {P : Program} {ops : Array Oper} {Q : Exit → Act → World → Prop} {md : Region.Mode} {S : World → Prop} {n : Nat}

/-- Which operations of the head hang on the world: those below n that are not listed in fr. -/
def heldB (n : Nat) (fr : List Nat) (i : Nat) : Bool := decide (i < n) && !fr.contains i
def sinkF (md : Region.Mode) (ops : Array Oper) (n : Nat) (fr : List Nat) : Bool :=
  (List.range n).all fun i => fr.contains i || (List.range (n + 1)).any fun j => decide (i < j) && Region.waitsFor md ops j i && !fr.contains j
/-- Every operation that need not wait has come up. -/
def FrDone (n : Nat) (fr : List Nat) (listed : Array Bool) : Prop := ∀ i, i < n → heldB n fr i = false → listed.getD i true = true

theorem tail_waitsF {n : Nat} {fr : List Nat} {listed : Array Bool} (hs : sinkF md ops n fr = true) (hc : Region.chainB md ops n = true) (hn : n < ops.size) (inv : HeadInv md ops n listed) :
    ∀ (d i : Nat), n - i = d → i < n → fr.contains i = false → listed.getD i true = false → ∀ t, n ≤ t → t ∉ Region.ready md ops listed := by
  intro d
  induction d using Nat.strongRecOn with
  | _ d ih =>
    intro i hd hi hfr hun t ht hr
    obtain ⟨_, ot, hot, hall⟩ := mem_ready.1 hr
    have htlt : t < ops.size := (Array.getElem?_eq_some_iff.1 hot).1
    by_cases htn : t = n
    · subst htn
      have h1 := List.all_eq_true.1 hs i (List.mem_range.2 hi)
      rw [hfr, Bool.false_or] at h1
      obtain ⟨j, hj, hj2⟩ := List.any_eq_true.1 h1
      simp only [Bool.and_eq_true, decide_eq_true_eq, Bool.not_eq_true'] at hj2
      obtain ⟨oj, hoj, e, he, hb, hon⟩ := Region.waitsFor_spec hj2.1.2
      have hjle : j ≤ t := by have := List.mem_range.1 hj; omega
      by_cases hjt : j = t
      · subst hjt
        have : oj = ot := Option.some.inj (hoj.symm.trans hot)
        subst this
        have h2 := hall e he hb
        rw [hon, getD_both hun] at h2
        cases h2
      · cases hl : listed.getD j false with
        | true =>
          have h2 := inv.closed j oj hoj hl e he hb
          rw [hon, getD_both hun] at h2
          cases h2
        | false =>
          have hjs : j < listed.size := by rw [inv.size]; omega
          exact ih (t - j) (by omega) j rfl (by omega) hj2.2 (getD_in hjs hl) t (Nat.le_refl _) hr
    · have h1 := List.all_eq_true.1 hc t (List.mem_range.2 htlt)
      simp only [Bool.or_eq_true, decide_eq_true_eq] at h1
      rcases h1 with h1 | h1
      · omega
      · obtain ⟨o', ho', e, he, hb, hon⟩ := Region.waitsFor_spec h1
        have : o' = ot := Option.some.inj (ho'.symm.trans hot)
        subst this
        have h2 := hall e he hb
        rw [hon, getD_both (inv.tail (t - 1) (by omega) (by omega))] at h2
        cases h2

/-- Whatever order is picked from here on, and S holds behind every operation of the head that hangs on the world. -/
def wpAnyG (P : Program) (md : Region.Mode) (ops : Array Oper) (Q : Exit → Act → World → Prop) (S : World → Prop) (n : Nat) (fr : List Nat) : Nat → Array Bool → Act → World → Prop
  | 0, listed, a, w => Region.ready md ops listed = [] ∧ Q .normal a w
  | fuel + 1, listed, a, w =>
    (Region.ready md ops listed = [] → Q .normal a w) ∧
    ∀ i ∈ Region.ready md ops listed, wpOp P ops Q i (fun a' w' => (heldB n fr i = true → S w') ∧ wpAnyG P md ops Q S n fr fuel (listed.setIfInBounds i true) a' w') a w
theorem wpAny_of_G {fr : List Nat} : ∀ (fuel : Nat) (listed : Array Bool) (a : Act) (w : World), wpAnyG P md ops Q S n fr fuel listed a w → wpAny P md ops Q fuel listed a w
  | 0, _, _, _, h => h
  | fuel + 1, _, _, _, h => ⟨h.1, fun i hi => wpOp_mono (fun _ _ h' => wpAny_of_G fuel _ _ _ h'.2) (h.2 i hi)⟩

theorem wpAnyG_first {fr : List Nat} {i : Nat} {oi : Oper} {v : Value} (hi : ops[i]? = some oi) (hsel : ∀ (j : Nat) (o : Oper) cs b, ops[j]? = some o → o.op ≠ .select cs b)
    (hs : sinkF md ops n fr = true) (hc : Region.chainB md ops n = true) (hn : n < ops.size) (hin : i < n) (hfi : fr.contains i = false)
    (hQ : ∀ c a w, Q (.panic c) (a.put oi.dst v) w → Q (.panic c) a w) :
    ∀ (fuel : Nat) (listed : Array Bool) (a : Act) (w : World), HeadInv md ops n listed → FrDone n fr listed →
      (∀ j oj, ops[j]? = some oj → j ≠ i → listed.getD j true = false → (∀ e ∈ oj.after, Region.binds md e = true → e.on ≠ i) → oi.apart ops oj = true) →
      i ∈ Region.ready md ops listed → YieldsIf P ops S oi v a → S w →
      wpAnyG P md ops Q S n fr fuel (listed.setIfInBounds i true) (a.put oi.dst v) w → wpAnyG P md ops Q S n fr (fuel + 1) listed a w := by
  intro fuel
  induction fuel with
  | zero =>
    intro listed a w _ _ _ hr hy hS H
    refine ⟨fun h => (by rw [h] at hr; cases hr), fun j hj => ?_⟩
    by_cases hji : j = i
    · subst hji; exact hy.wpOp hi hS ⟨fun _ => hS, H⟩
    · have := ready_mono hj hji
      rw [H.1] at this
      cases this
  | succ fuel ih =>
    intro listed a w inv hfd hfree hr hy hS H
    have hun := (mem_ready.1 hr).1
    refine ⟨fun h => (by rw [h] at hr; cases hr), fun j hj => ?_⟩
    have hjn : j < n := by
      rcases Nat.lt_or_ge j n with h | h
      · exact h
      · exact absurd hj (tail_waitsF hs hc hn inv _ i rfl hin hfi hun j h)
    by_cases hji : j = i
    · subst hji; exact hy.wpOp hi hS ⟨fun _ => hS, H⟩
    · have h1 := H.2 j (ready_mono hj hji)
      obtain ⟨hjun, oj, hoj, hall⟩ := mem_ready.1 hj
      have hjh : heldB n fr j = true := by
        cases hb : heldB n fr j with
        | true => rfl
        | false => have := hfd j hjn hb; rw [hjun] at this; cases this
      have hnot : ∀ e ∈ oj.after, Region.binds md e = true → e.on ≠ i := fun e he hb heq => by
        have h1 := hall e he hb
        rw [heq, getD_both hun] at h1
        cases h1
      have h2 := wpOp_putIf hoj (hfree j oj hoj hji hjun hnot) (fun cs b => hsel i oi cs b hi) (fun cs b => hsel j oj cs b hoj) hQ hy h1
      have hfree' : ∀ k ok, ops[k]? = some ok → k ≠ i → (listed.setIfInBounds j true).getD k true = false →
          (∀ e ∈ ok.after, Region.binds md e = true → e.on ≠ i) → oi.apart ops ok = true := fun k ok hk hki hun hno => by
        refine hfree k ok hk hki ?_ hno
        by_cases hjk : j = k
        · subst hjk; exact hjun
        · rw [getD_set_ne true hjk] at hun; exact hun
      have hfd' : FrDone n fr (listed.setIfInBounds j true) := fun k hk hb => by
        by_cases hjk : j = k
        · subst hjk; rw [hjh] at hb; cases hb
        · rw [getD_set_ne true hjk]; exact hfd k hk hb
      refine wpOp_mono (fun a' w' h3 => ⟨h3.2.1, ih (listed.setIfInBounds j true) a' w' (inv.set hj hjn) hfd' hfree' (ready_mono hr (Ne.symm hji)) h3.1 (h3.2.1 hjh) ?_⟩) h2
      rw [Array.setIfInBounds_comm _ _ hji]
      exact h3.2.2

/-- What yields its value in whatever world may be taken first, though the tail does not wait for it. -/
theorem wpAnyG_free {fr : List Nat} {i : Nat} {oi : Oper} {v : Value} (hi : ops[i]? = some oi) (hsel : ∀ (j : Nat) (o : Oper) cs b, ops[j]? = some o → o.op ≠ .select cs b)
    (hfi : heldB n fr i = false) (hQ : ∀ c a w, Q (.panic c) (a.put oi.dst v) w → Q (.panic c) a w) :
    ∀ (fuel : Nat) (listed : Array Bool) (a : Act) (w : World),
      (∀ j oj, ops[j]? = some oj → j ≠ i → listed.getD j true = false → (∀ e ∈ oj.after, Region.binds md e = true → e.on ≠ i) → oi.apart ops oj = true) →
      i ∈ Region.ready md ops listed → YieldsIf P ops (fun _ => True) oi v a →
      wpAnyG P md ops Q S n fr fuel (listed.setIfInBounds i true) (a.put oi.dst v) w → wpAnyG P md ops Q S n fr (fuel + 1) listed a w := by
  intro fuel
  induction fuel with
  | zero =>
    intro listed a w _ hr hy H
    refine ⟨fun h => (by rw [h] at hr; cases hr), fun j hj => ?_⟩
    by_cases hji : j = i
    · subst hji; exact hy.wpOp hi trivial ⟨fun h => (by rw [hfi] at h; cases h), H⟩
    · have := ready_mono hj hji
      rw [H.1] at this
      cases this
  | succ fuel ih =>
    intro listed a w hfree hr hy H
    have hun := (mem_ready.1 hr).1
    refine ⟨fun h => (by rw [h] at hr; cases hr), fun j hj => ?_⟩
    by_cases hji : j = i
    · subst hji; exact hy.wpOp hi trivial ⟨fun h => (by rw [hfi] at h; cases h), H⟩
    · have h1 := H.2 j (ready_mono hj hji)
      obtain ⟨hjun, oj, hoj, hall⟩ := mem_ready.1 hj
      have hnot : ∀ e ∈ oj.after, Region.binds md e = true → e.on ≠ i := fun e he hb heq => by
        have h1 := hall e he hb
        rw [heq, getD_both hun] at h1
        cases h1
      have h2 := wpOp_putIf hoj (hfree j oj hoj hji hjun hnot) (fun cs b => hsel i oi cs b hi) (fun cs b => hsel j oj cs b hoj) hQ hy h1
      have hfree' : ∀ k ok, ops[k]? = some ok → k ≠ i → (listed.setIfInBounds j true).getD k true = false →
          (∀ e ∈ ok.after, Region.binds md e = true → e.on ≠ i) → oi.apart ops ok = true := fun k ok hk hki hun hno => by
        refine hfree k ok hk hki ?_ hno
        by_cases hjk : j = k
        · subst hjk; exact hjun
        · rw [getD_set_ne true hjk] at hun; exact hun
      refine wpOp_mono (fun a' w' h3 => ⟨h3.2.1, ih (listed.setIfInBounds j true) a' w' hfree' (ready_mono hr (Ne.symm hji)) h3.1 ?_⟩) h2
      rw [Array.setIfInBounds_comm _ _ hji]
      exact h3.2.2

theorem wpAnyG_seq {fr : List Nat} : ∀ (l : List Oper) (k : Nat) (listed : Array Bool) (a : Act) (w : World), n ≤ k → (∀ j, l[j]? = ops[k + j]?) →
    Region.seqB md ops l.length k listed = true → wpList P ops Q l a w → wpAnyG P md ops Q S n fr l.length listed a w
  | [], _, _, _, _, _, _, hB, h => ⟨by simpa [Region.seqB] using hB, h⟩
  | o :: l, k, listed, a, w, hk, hl, hB, h => by
    have h0 : ops[k]? = some o := by simpa using (hl 0).symm
    simp only [List.length_cons, Region.seqB, Bool.and_eq_true, decide_eq_true_eq] at hB
    refine ⟨fun h1 => (by rw [hB.1] at h1; cases h1), fun i hi => ?_⟩
    rw [hB.1] at hi
    have hik : i = k := by simpa using hi
    subst hik
    have hw : wpOp P ops Q i (wpList P ops Q l) a w := by unfold wpOp; simp only [h0]; exact h
    exact wpOp_mono (fun a' w' h' => ⟨fun hc => (by simp [heldB] at hc; omega), wpAnyG_seq l (i + 1) _ a' w' (by omega) (fun j => by have := hl (j + 1); simpa [Nat.add_assoc, Nat.add_comm 1 j] using this) hB.2 h'⟩) hw

/-- The kinds of a step: 0: yields its value in whatever world; 1: in every world that meets S; 2: alone may come up. -/
def ordB (md : Region.Mode) (ops : Array Oper) (n : Nat) (fr : List Nat) : List (Nat × Nat) → Array Bool → Bool
  | [], listed => Region.seqB md ops (ops.size - n) n listed
  | (0, k) :: r, listed => decide (k < n) && fr.contains k && (Region.ready md ops listed).contains k && Region.free md ops listed k && ordB md ops n fr r (listed.setIfInBounds k true)
  | (1, k) :: r, listed => decide (k < n) && !fr.contains k && ((List.range n).all fun i => heldB n fr i || listed.getD i true) && (Region.ready md ops listed).contains k && Region.free md ops listed k && ordB md ops n fr r (listed.setIfInBounds k true)
  | (_ + 2, k) :: r, listed => decide (k < n) && !fr.contains k && decide (Region.ready md ops listed = [k]) && ordB md ops n fr r (listed.setIfInBounds k true)
/-- The walk along the given order. -/
def wpOrd (P : Program) (ops : Array Oper) (Q : Exit → Act → World → Prop) (S : World → Prop) (tl : List Oper) : List (Nat × Nat) → Act → World → Prop
  | [], a, w => wpList P ops Q tl a w
  | (0, k) :: r, a, w => ∃ o v, ops[k]? = some o ∧ YieldsIf P ops (fun _ => True) o v a ∧ wpOrd P ops Q S tl r (a.put o.dst v) w
  | (1, k) :: r, a, w => ∃ o v, ops[k]? = some o ∧ YieldsIf P ops S o v a ∧ wpOrd P ops Q S tl r (a.put o.dst v) w
  | (_ + 2, k) :: r, a, w => ∃ o, ops[k]? = some o ∧ if Region.wanted o (yielded ops a.tmps) then o.wp P a w (fun a' w' => S w' ∧ wpOrd P ops Q S tl r a' w') Q else wpOrd P ops Q S tl r (a.put o.dst undef) w

theorem ord_sound {fr : List Nat} (hQ : ∀ c a (d : Option Tmp) v w, Q (.panic c) (Act.put a d v) w → Q (.panic c) a w) (hsel : Region.noSelect ops = true) (hs : sinkF md ops n fr = true) (hc : Region.chainB md ops n = true) (hn : n < ops.size)
    (tl : List Oper) (htl : ∀ j, tl[j]? = ops[n + j]?) (hlen : tl.length = ops.size - n) :
    ∀ (ord : List (Nat × Nat)) (listed : Array Bool) (a : Act) (w : World), HeadInv md ops n listed → ordB md ops n fr ord listed = true → S w →
      wpOrd P ops Q S tl ord a w → wpAnyG P md ops Q S n fr (ord.length + (ops.size - n)) listed a w
  | [], listed, a, w, _, hB, _, h => by
    rw [List.length_nil, Nat.zero_add, ← hlen]
    exact wpAnyG_seq tl n listed a w (Nat.le_refl _) htl (by rw [hlen]; exact hB) h
  | (0, k) :: r, listed, a, w, inv, hB, hS, h => by
    obtain ⟨o, v, ho, hy, h⟩ := h
    simp only [ordB, Bool.and_eq_true, decide_eq_true_eq] at hB
    obtain ⟨⟨⟨⟨h1, hf⟩, h2⟩, h3⟩, h4⟩ := hB
    have hr : k ∈ Region.ready md ops listed := by simpa using h2
    rw [List.length_cons, show r.length + 1 + (ops.size - n) = (r.length + (ops.size - n)) + 1 by omega]
    exact wpAnyG_free ho (Region.noSelect_spec hsel) (by unfold heldB; rw [hf]; simp) (fun c a w => hQ c a o.dst v w) _ listed a w (Region.free_spec ho h3) hr hy
      (ord_sound hQ hsel hs hc hn tl htl hlen r _ _ w (inv.set hr h1) h4 hS h)
  | (1, k) :: r, listed, a, w, inv, hB, hS, h => by
    obtain ⟨o, v, ho, hy, h⟩ := h
    simp only [ordB, Bool.and_eq_true, decide_eq_true_eq, Bool.not_eq_true'] at hB
    obtain ⟨⟨⟨⟨⟨h1, hf⟩, hd⟩, h2⟩, h3⟩, h4⟩ := hB
    have hr : k ∈ Region.ready md ops listed := by simpa using h2
    have hfd : FrDone n fr listed := fun i hi hb => by
      have := List.all_eq_true.1 hd i (List.mem_range.2 hi)
      rw [hb, Bool.false_or] at this
      exact this
    rw [List.length_cons, show r.length + 1 + (ops.size - n) = (r.length + (ops.size - n)) + 1 by omega]
    exact wpAnyG_first ho (Region.noSelect_spec hsel) hs hc hn h1 hf (fun c a w => hQ c a o.dst v w) _ listed a w inv hfd (Region.free_spec ho h3) hr hy hS
      (ord_sound hQ hsel hs hc hn tl htl hlen r _ _ w (inv.set hr h1) h4 hS h)
  | (_ + 2, k) :: r, listed, a, w, inv, hB, hS, h => by
    obtain ⟨o, ho, h⟩ := h
    simp only [ordB, Bool.and_eq_true, decide_eq_true_eq, Bool.not_eq_true'] at hB
    obtain ⟨⟨⟨h1, hf⟩, h2⟩, h4⟩ := hB
    have hr : k ∈ Region.ready md ops listed := by rw [h2]; simp
    rw [List.length_cons, show r.length + 1 + (ops.size - n) = (r.length + (ops.size - n)) + 1 by omega]
    refine ⟨fun h0 => (by rw [h0] at hr; cases hr), fun i hi => ?_⟩
    rw [h2] at hi
    obtain rfl : i = k := by simpa using hi
    unfold wpOp
    simp only [ho]
    split
    · rename_i hw
      rw [if_pos hw] at h
      exact .inl (Oper.wp_mono (fun a' w' h' => ⟨fun _ => h'.1, ord_sound hQ hsel hs hc hn tl htl hlen r _ a' w' (inv.set hr h1) h4 h'.1 h'.2⟩) h)
    · rename_i hw
      rw [if_neg hw] at h
      exact ⟨fun _ => hS, ord_sound hQ hsel hs hc hn tl htl hlen r _ _ w (inv.set hr h1) h4 hS h⟩

def frOf (ord : List (Nat × Nat)) : List Nat := (ord.filter fun p => p.1 == 0).map (·.2)
def regB (ops : Array Oper) (n : Nat) (ord : List (Nat × Nat)) : Bool :=
  Region.noSelect ops && decide (n < ops.size) && decide (ord.length = n) && sinkF .any ops n (frOf ord) && Region.chainB .any ops n && ordB .any ops n (frOf ord) ord (Array.replicate ops.size false)

/-- **The law**: the head's n operations in the order 'ord', S all the while; then the tail. -/
theorem wp_region_ord {id : Nat} {a : Act} {w : World} {l : List Oper} (n : Nat) (ord : List (Nat × Nat)) (S : World → Prop) (hm : P.follows .mixedOrders = true) (hB : regB l.toArray n ord = true)
    (hQ : ∀ c a (d : Option Tmp) v w, Q (.panic c) (Act.put a d v) w → Q (.panic c) a w) (hS : S w.drew) (h : wpOrd P l.toArray Q S (l.drop n) ord a w.drew) : (Code.region id l.toArray true).wp P Q a w := by
  simp only [regB, Bool.and_eq_true, decide_eq_true_eq] at hB
  obtain ⟨⟨⟨⟨⟨hsel, hn⟩, hlen⟩, hs⟩, hc⟩, hord⟩ := hB
  have inv0 : HeadInv .any l.toArray n (Array.replicate l.toArray.size false) :=
    ⟨by simp, fun j oj _ hl => (by rw [getD_replicate_false] at hl; cases hl), fun t _ ht => getD_in (by simpa using ht) (getD_replicate_false _ _)⟩
  refine wp_region_any hm (wpAny_of_G (S := S) (n := n) (fr := frOf ord) _ _ _ _ ?_)
  have := ord_sound (P := P) (Q := Q) (S := S) hQ hsel hs hc hn (l.drop n) (fun j => by simp [List.getElem?_drop]) (by simp) ord _ a w.drew inv0 hord hS h
  rw [hlen, show n + (l.toArray.size - n) = l.toArray.size by omega] at this
  exact this

/-! ### the steps of the walk -/
theorem wpOrd_take {tl : List Oper} {k : Nat} {r : List (Nat × Nat)} {o : Oper} {v : Value} {a : Act} {w : World} (ho : ops[k]? = some o) (hw : Region.wanted o (yielded ops a.tmps) = true)
    (hy : ∀ w, S w → (execOp a.eval o).run P w = .ok (.value v) w) (h : wpOrd P ops Q S tl r (a.put o.dst v) w) : wpOrd P ops Q S tl ((1, k) :: r) a w :=
  ⟨o, v, ho, .inl ⟨hw, hy⟩, h⟩
theorem wpOrd_step {tl : List Oper} {k : Nat} {r : List (Nat × Nat)} {o : Oper} {a : Act} {w : World} (ho : ops[k]? = some o)
    (h : ∀ K : Act → World → Prop, (∀ a w, S w → wpOrd P ops Q S tl r a w → K a w) → Region.wanted o (yielded ops a.tmps) = true ∧ o.wp P a w K Q) : wpOrd P ops Q S tl ((2, k) :: r) a w := by
  obtain ⟨h1, h2⟩ := h (fun a' w' => S w' ∧ wpOrd P ops Q S tl r a' w') (fun _ _ h1 h2 => ⟨h1, h2⟩)
  exact ⟨o, ho, by rw [if_pos h1]; exact h2⟩
theorem wpOrd_nil {tl : List Oper} {a : Act} {w : World} (h : wpList P ops Q tl a w) : wpOrd P ops Q S tl [] a w := h
end
end Fk

set_option linter.unusedSimpArgs false
set_option linter.unusedVariables false
namespace Go.Proofs.YthckledagggoiaaGreatDoor
open Go.RowKit Fk Sha
set_option maxRecDepth 100000 in
set_option maxHeartbeats 2000000 in
theorem ccheck_list (l : List Int) (A : Option Addr) (c : Nat) (w : World) (h : SlV w w.heap.size (.slice A l.length c) l) (hp : 1 ≤ l.length) :
    Calls Tryz.prog 158 #[listV A l.length c] w fun e w' => e = .returned (.int .i64 0) ∧ Below w.heap.size w w' := by
  have HS := Lib.hid h
  clear h
  go_enter Tryz.func158, Tryz.ntmps158
  have hB := below_alloc' w (.cells #[.int .i64 3, .int .i64 0, .string ⟨#[]⟩, .slice A l.length c] 173)
  have hf := fun W (h : Below w.heap.size w W) => formed_list l A c W ((HS.out.below h).mono h.size) hp
  have HF := Lib.hid hf
  clear hf
  go_wp2_with (go_at_call 175; (with_reducible refine (HF.out _ hB).mono ?_); rintro e wn ⟨rfl, hn⟩)
  go_ret
  exact ⟨rfl, hB.trans (hn.mono (by simp))⟩
theorem grown_below' {W W' : World} (h : Below W.heap.size W W') (row : Option Nat) : W.grownBy W' row := ⟨h.os, h.tape, h.output, h.size, fun k hk _ => h.block k hk⟩
set_option maxRecDepth 100000 in
set_option maxHeartbeats 2000000 in
theorem write_int (l : List B) (v : Value) (n : Nat) (hn : n < 4611686018427387904) (w : World) (h : ownB w v l) (hl : l.length ≤ 1000000000) :
    Calls Tryz.prog 176 #[v, intV (n : Int)] w fun e w' => ∃ v', e = .returned v' ∧ ownB w' v' (l ++ 1#8 :: numeral (2 * n)) ∧ Grew w w' v v' := by
  obtain ⟨i0, hi, hz0, hz1, hz2⟩ := info_parts infoB4
  have hg0 := Grew.alloc w v (.cells #[.int .i64 1, .int .i64 (n : Int), .string ⟨#[]⟩, .slice none 0 0] 173)
  have hown := h.alloc (.cells #[.int .i64 1, .int .i64 (n : Int), .string ⟨#[]⟩, .slice none 0 0] 173)
  have hc : (w.alloc (.cells #[.int .i64 1, .int .i64 (n : Int), .string ⟨#[]⟩, .slice none 0 0] 173)).cell? ⟨w.heap.size, 1, none⟩ = some (.int .i64 (n : Int)) := by simp
  have hz : w.heap.size < (w.alloc (.cells #[.int .i64 1, .int .i64 (n : Int), .string ⟨#[]⟩, .slice none 0 0] 173)).heap.size := by simp
  have hne : v.ownBlock ≠ some w.heap.size := fun e => by have := (h.lt _ e).2; omega
  have hu := fun w => unsigned_any n hn w
  obtain ⟨m, hm⟩ : ∃ m, 2 * n = m := ⟨_, rfl⟩
  rw [hm] at hu ⊢
  have hm2 : m < 9223372036854775808 := by omega
  have HU := Lib.hid hu
  clear hu hm
  go_enter Tryz.func176, Tryz.ntmps176
  go_wp2_with fail
  generalize w.alloc (.cells #[.int .i64 1, .int .i64 (n : Int), .string ⟨#[]⟩, .slice none 0 0] 173) = W at *
  refine wp_region_ord 6 [(1, 0), (1, 3), (1, 4), (2, 1), (2, 2), (2, 5)] (fun w' => w'.cell? ⟨w.heap.size, 1, none⟩ = some (.int .i64 (n : Int))) (by kernel_rfl) (by kernel_rfl) (fun _ _ d _ _ h => by cases d <;> exact h) hc ?_
  replace hg0 : Grew w W.drew v v := hg0.drew
  replace hown : ownB W.drew v l := hown.kept (grown_below' (Below.refl _ _).drew none) (Classical.em _)
  replace hc : W.drew.cell? ⟨w.heap.size, 1, none⟩ = some (.int .i64 (n : Int)) := hc
  replace hz : w.heap.size < W.drew.heap.size := hz
  generalize W.drew = W1 at *
  iterate 3
    refine wpOrd_take (v := ?_) rfl (by rfl) (fun w hSw => ?_) ?_
    rotate_left 1
    · go_simp
      with_reducible rfl
    simp only [Act.put, List.setIfInBounds_toArray, List.set_cons_zero, List.set_cons_succ]
  refine wpOrd_step rfl (fun K hK => ⟨by rfl, ?_⟩)
  go_simp
  have hc1 : (W1.alloc (.cells #[.int .u8 1] 5)).cell? ⟨w.heap.size, 1, none⟩ = some (.int .i64 (n : Int)) := (World.cell?_alloc_past _ _ _ hz).trans hc
  refine hK _ _ hc1 ?_
  clear hK K
  try simp only [Act.put, List.setIfInBounds_toArray, List.set_cons_zero, List.set_cons_succ]
  refine wpOrd_step rfl (fun K hK => ⟨by rfl, ?_⟩)
  refine wp_append_lies _ _ _ 155 rfl 0 5 i0 (.int .u8 0) 1 1 Tryz.underlying155 hi hz0 hz1 hz2 rfl (by decide) _ _ _ rfl (hown.alloc _) ⟨W1.heap.size, 0, none⟩ 1 1 [.int .u8 1] rfl rfl (cell_one_newB _ _ _) (by simp [Value.oneCell']) (by decide) (by unfold maxLen; omega) (by omega) (Nat.zero_le _) _ rfl ?_
  intro g cap w2 hown2 hgrow hat hlt
  replace hgrow : (W1.alloc (.cells #[.int .u8 1] 5)).grownBy w2 v.ownBlock := hgrow
  replace hat : v.ownBlock = some g ∨ g = (W1.alloc (.cells #[.int .u8 1] 5)).heap.size := hat
  have hg1 : Grew w w2 v (.slice (some ⟨g, 0, none⟩) (l.length + 1) cap) := hg0.trans ((Grew.alloc _ _ _).trans (Grew.lies hgrow hat))
  have hc2 : w2.cell? ⟨w.heap.size, 1, none⟩ = some (.int .i64 (n : Int)) := (hgrow.cell_far _ (by simp; omega) (fun e => hne e.symm)).trans hc1
  refine hK _ _ hc2 ?_
  clear hK K
  try simp only [Act.put, List.setIfInBounds_toArray, List.set_cons_zero, List.set_cons_succ]
  refine wpOrd_step rfl (fun K hK => ⟨by rfl, ?_⟩)
  go_simp
  go_at_call 178
  refine (HU.out _).mono ?_
  rintro e w3 ⟨rfl, rfl⟩
  refine hK _ _ hc2 ?_
  clear hK K
  try simp only [Act.put, List.setIfInBounds_toArray, List.set_cons_zero, List.set_cons_succ]
  refine wpOrd_nil ?_
  simp only [List.drop_succ_cons, List.drop_zero]
  have hown3 : ownB w3 (.slice (some ⟨g, 0, none⟩) (l.length + 1) cap) (l ++ [1#8]) := ownB_snoc hown2 rfl
  go_wp2_with (go_at_call 177; (with_reducible refine (numeral_any _ _ m hm2 _ hown3 (by simp; omega)).mono ?_); rintro e w4 ⟨v', rfl, ho, hg⟩)
  go_ret
  refine ⟨v', rfl, ?_, hg1.trans hg⟩
  rw [List.append_assoc] at ho
  exact ho
end Go.Proofs.YthckledagggoiaaGreatDoor

set_option linter.unusedSimpArgs false
set_option linter.unusedVariables false
namespace Sha
def encI1 (n : Int) : List B := 1#8 :: numeral (2 * n.toNat)
def encHd (n : Nat) : List B := 3#8 :: numeral n
/-- the encoding of a list of integers -/
def encL (l : List Int) : List B := encHd l.length ++ l.flatMap encI1
def smallI (l : List Int) : Prop := ∀ i, i < l.length → 0 ≤ l.getD i default ∧ l.getD i default < 4611686018427387904
theorem encI1_length {n : Int} (h : n < 4611686018427387904) : (encI1 n).length ≤ 10 := by
  unfold encI1
  have := numeral_length 8 (2 * n.toNat) (by omega)
  simp; omega
theorem encHd_length {n : Nat} (h : n < 4611686018427387904) : (encHd n).length ≤ 10 := by
  unfold encHd
  have := numeral_length 8 n (by omega)
  simp; omega
theorem take_snocJ {l : List Int} {k : Nat} (h : k < l.length) : (l.take (k + 1)).flatMap encI1 = (l.take k).flatMap encI1 ++ encI1 (l.getD k default) := by
  rw [List.take_add_one, List.flatMap_append, List.getElem?_eq_getElem h, List.getD_eq_getElem?_getD, List.getElem?_eq_getElem h]
  simp
theorem flat_length {l : List Int} (h : smallI l) : ∀ k, k ≤ l.length → ((l.take k).flatMap encI1).length ≤ 10 * k
  | 0, _ => by simp
  | k + 1, hk => by
    rw [take_snocJ (by omega), List.length_append]
    have h1 := flat_length h k (by omega)
    have h2 := encI1_length (h k (by omega)).2
    omega
end Sha
namespace Go.Proofs.YthckledagggoiaaGreatDoor
open Go.RowKit Fk Sha
theorem lt_of_lt_of_le' {a b c : Nat} (h : a < b) (k : b ≤ c) : a < c := Nat.lt_of_lt_of_le h k
theorem Wtr.below {w w' : World} {b : Nat} (h : Wtr w b) (hg : Below w.heap.size w w') : Wtr w' b := ⟨h.tab.below hg h.tab.lt, h.var.below hg h.var.lt⟩
theorem Grew.nil_below {w w' : World} {v' : Value} (h : Grew w w' (.slice none 0 0) v') : Below w.heap.size w w' := h.below (Nat.le_refl _) (fun k e => by cases e)
set_option maxRecDepth 100000 in
set_option maxHeartbeats 4000000 in
theorem write_list (l : List Int) (A : Option Addr) (c b : Nat) (w : World) (h : SlV w w.heap.size (.slice A l.length c) l) (hs : smallI l) (hl : l.length ≤ 1000) (hW : Wtr w b) :
    Calls Tryz.prog 180 #[.slice none 0 0, listV A l.length c, .pointer (some ⟨b + 1, 0, none⟩)] w fun e w' => ∃ v', e = .returned v' ∧ ownB w' v' (encL l) ∧ Below w.heap.size w w' := by
  obtain ⟨i0, hi, hz0, hz1, hz2⟩ := info_parts infoB4
  have HS := Lib.hid h
  have HN := Lib.hid hs
  have HW := Lib.hid hW
  have hwz := hW.var.lt
  have HE := Lib.hid (flat_length hs)
  clear h hs hW
  have hB0 := below_alloc' w (.cells #[.int .i64 3, .int .i64 0, .string ⟨#[]⟩, .slice A l.length c] 173)
  have hc : (w.alloc (.cells #[.int .i64 3, .int .i64 0, .string ⟨#[]⟩, .slice A l.length c] 173)).cell? ⟨w.heap.size, 3, none⟩ = some (.slice A l.length c) := by simp
  have hz : w.heap.size < (w.alloc (.cells #[.int .i64 3, .int .i64 0, .string ⟨#[]⟩, .slice A l.length c] 173)).heap.size := by simp
  go_enter Tryz.func180, Tryz.ntmps180
  go_wp2_with fail
  generalize w.alloc (.cells #[.int .i64 3, .int .i64 0, .string ⟨#[]⟩, .slice A l.length c] 173) = W at *
  refine wp_region_ord 7 [(1, 0), (1, 3), (1, 4), (1, 5), (1, 6), (2, 1), (2, 2)] (fun w' => w'.cell? ⟨w.heap.size, 3, none⟩ = some (.slice A l.length c)) (by kernel_rfl) (by kernel_rfl) (fun _ _ d _ _ h => by cases d <;> exact h) hc ?_
  replace hB0 : Below w.heap.size w W.drew := hB0.drew
  replace hc : W.drew.cell? ⟨w.heap.size, 3, none⟩ = some (.slice A l.length c) := hc
  replace hz : w.heap.size < W.drew.heap.size := hz
  generalize W.drew = W1 at *
  iterate 4
    refine wpOrd_take (v := ?_) rfl (by rfl) (fun w hSw => ?_) ?_
    rotate_left 1
    · go_simp
      with_reducible rfl
    simp only [Act.put, List.setIfInBounds_toArray, List.set_cons_zero, List.set_cons_succ]
  refine wpOrd_take (v := .int .u64 (l.length : Int)) rfl (by rfl) (fun w hSw => ?_) ?_
  · go_simp
    rw [IntKind.wrap_u64]; omega
  simp only [Act.put, List.setIfInBounds_toArray, List.set_cons_zero, List.set_cons_succ]
  refine wpOrd_step rfl (fun K hK => ⟨by rfl, ?_⟩)
  go_simp
  have hc1 : (W1.alloc (.cells #[.int .u8 3] 5)).cell? ⟨w.heap.size, 3, none⟩ = some (.slice A l.length c) := (World.cell?_alloc_past _ _ _ hz).trans hc
  refine hK _ _ hc1 ?_
  clear hK K
  try simp only [Act.put, List.setIfInBounds_toArray, List.set_cons_zero, List.set_cons_succ]
  refine wpOrd_step rfl (fun K hK => ⟨by rfl, ?_⟩)
  refine wp_append_lies _ _ _ 155 rfl 0 5 i0 (.int .u8 0) 1 1 Tryz.underlying155 hi hz0 hz1 hz2 rfl (by decide) _ _ _ rfl (World.ownsRow_nil _ _ _ _) ⟨W1.heap.size, 0, none⟩ 1 1 [.int .u8 3] rfl rfl (cell_one_newB _ _ _) (by simp [Value.oneCell']) (by decide) (by unfold maxLen; omega) (by omega) (Nat.zero_le _) _ rfl ?_
  intro g cap w2 hown2 hgrow hat hlt
  replace hgrow : (W1.alloc (.cells #[.int .u8 3] 5)).grownBy w2 (Value.slice none 0 0).ownBlock := hgrow
  replace hat : (Value.slice none 0 0).ownBlock = some g ∨ g = (W1.alloc (.cells #[.int .u8 3] 5)).heap.size := hat
  have hg1 : Grew W1 w2 (.slice none 0 0) (.slice (some ⟨g, 0, none⟩) (0 + 1) cap) := (Grew.alloc _ _ _).trans (Grew.lies hgrow hat)
  have hc2 : w2.cell? ⟨w.heap.size, 3, none⟩ = some (.slice A l.length c) := hg1.cell hc hz (fun e => by cases e)
  refine hK _ _ hc2 ?_
  clear hK K
  try simp only [Act.put, List.setIfInBounds_toArray, List.set_cons_zero, List.set_cons_succ]
  refine wpOrd_nil ?_
  simp only [List.drop_succ_cons, List.drop_zero]
  have hown3 : ownB w2 (.slice (some ⟨g, 0, none⟩) (0 + 1) cap) [3#8] := hown2
  go_wp2_with (go_at_call 177; (with_reducible refine (numeral_any _ _ l.length (by omega) _ hown3 (by simp)).mono ?_); rintro e w4 ⟨v', rfl, ho, hg⟩; have hc4 : w4.cell? ⟨w.heap.size, 3, none⟩ = some (.slice A l.length c) := (hg1.trans hg).cell hc hz (fun e => by cases e))
  have hb4 : Below w.heap.size w w4 := hB0.trans (((hg1.trans hg).nil_below).mono hB0.size)
  have ho4 : ownB w4 v' (encHd l.length ++ (l.take 0).flatMap encI1) := by simpa [encHd] using ho
  have hlo4 : ∀ k, v'.ownBlock = some k → w.heap.size ≤ k := by
    intro k hk
    have h1 := hB0.size
    rcases (hg1.trans hg).o with e | ⟨i, e, hi⟩
    · rw [e] at hk; cases hk
    · rw [e] at hk; injection hk with hk; omega
  clear hc hz hc1 hown2 hlt hgrow hat hg1 hc2 hown3 ho hg hB0
  have hz4 := hb4.size
  go_loopg [0, 19] l.length (fun gh bv' iv wr => ∃ k : Nat, iv = .int .i64 k ∧ k + gh = l.length ∧ Below w.heap.size w wr ∧ Hid (∀ k, bv'.ownBlock = some k → w.heap.size ≤ k) ∧ ownB wr bv' (encHd l.length ++ (l.take k).flatMap encI1))
  case atStart => exact ⟨0, rfl, by omega, hb4, hlo4, ho4⟩
  case round =>
    clear ho4
    obtain ⟨k, rfl, hkg, hBr, HLO, hown⟩ := hrel
    have hzr := hBr.size
    by_cases hlt : k < l.length
    · obtain ⟨xb, o, c', hv, hb, d0, d1, d2, d3⟩ := SlV.get (HS.out.below hBr) hlt
      cases hv
      have hnn := HN.out k hlt
      have hsn := take_snocJ hlt
      have hlen := HE.out k (by omega)
      have hhd := encHd_length (n := l.length) (by omega)
      have hfl : (encHd l.length ++ (l.take k).flatMap encI1).length ≤ 1000000000 := by rw [List.length_append]; omega
      obtain ⟨x, hx⟩ : ∃ x, l.getD k default = x := ⟨_, rfl⟩
      rw [hx] at d1 hnn hsn
      obtain ⟨m, rfl⟩ : ∃ m : Nat, x = (m : Int) := ⟨x.toNat, by omega⟩
      have s1 : (0 : Int) ≤ k := by omega
      have s2 : (k : Int) < l.length := by omega
      have hbz : xb < wr.heap.size := by omega
      have hw := HW.out.below hBr
      clear hx hlen hhd
      obtain ⟨acc, hacc⟩ : ∃ acc, encHd l.length ++ (l.take k).flatMap encI1 = acc := ⟨_, rfl⟩
      have HSN := Lib.hid hsn
      have HAC := Lib.hid hacc
      rw [hacc] at hown hfl
      clear hsn hacc
      go_upto_region 5 with fail
      have r7 := Row.new wr 173 [.int .i64 1, .int .i64 (m : Int), .string ⟨#[]⟩, .slice none 0 0]
      have hwA : Wtr (wr.alloc (.cells #[.int .i64 1, .int .i64 (m : Int), .string ⟨#[]⟩, .slice none 0 0] 173)) b := hw.below (below_alloc' _ _)
      have hownA := hown.alloc (.cells #[.int .i64 1, .int .i64 (m : Int), .string ⟨#[]⟩, .slice none 0 0] 173)
      have hBA := hBr.alloc hzr (.cells #[.int .i64 1, .int .i64 (m : Int), .string ⟨#[]⟩, .slice none 0 0] 173)
      obtain ⟨W5, hW5⟩ : ∃ W5, wr.alloc (.cells #[.int .i64 1, .int .i64 (m : Int), .string ⟨#[]⟩, .slice none 0 0] 173) = W5 := ⟨_, rfl⟩
      replace r7 : Row W5 wr.heap.size 173 [.int .i64 1, .int .i64 (m : Int), .string ⟨#[]⟩, .slice none 0 0] := hW5 ▸ r7
      rw [hW5] at hwA hownA hBA ⊢
      clear hW5 hw d0 d1 d2 d3
      obtain ⟨e0, e1, e2, e3⟩ := st4 hwA.tab
      have ev := st1c hwA.var
      obtain ⟨k0, k1, k2, k3⟩ := st4 r7
      have t0 := hwA.tab.lt
      have t1 := hwA.var.lt
      have t2 := r7.lt
      replace hownA : ownB W5.drew u0 acc := World.ownsRow.kept hownA (grown_below' (Below.refl _ _).drew none) (Classical.em _)
      have hlow : ∀ k, u0.ownBlock = some k → w.heap.size ≤ k := HLO.out
      have HWI := Lib.hid (write_int acc u0 m (by omega) _ hownA hfl)
      have HBA := Lib.hid hBA.drew
      clear hownA hBA hwA r7
      go_still_tail 9, (by kernel_rfl)
      repeat still_step
      try refine wpStill_nil ?_
      change wpList _ _ _ _ _ W5.drew
      go_wp2_with (go_at_call 176; (with_reducible refine HWI.out.mono ?_); rintro e w5 ⟨v5, rfl, ho5, hg5⟩)
      go_roundg (gk - 1)
      case measure => omega
      case rel =>
        refine ⟨k + 1, by first | rfl | go_num, by omega, ?_, ?_, ?_⟩
        · exact HBA.out.trans (hg5.below HBA.out.size hlow)
        · intro j hj
          rcases hg5.o with e | ⟨i, e, hi⟩
          · rw [e] at hj; exact hlow j hj
          · rw [e] at hj; injection hj with hj; have := HBA.out.size; omega
        · rw [HSN.out, ← List.append_assoc, HAC.out]
          exact ho5
    · obtain rfl : k = l.length := by omega
      rw [List.take_length] at hown
      go_wp2_with fail
      go_ret
      exact ⟨_, rfl, hown, hBr⟩
end Go.Proofs.YthckledagggoiaaGreatDoor

set_option linter.unusedSimpArgs false
set_option linter.unusedVariables false
namespace Go.Proofs.YthckledagggoiaaGreatDoor
open Go.RowKit Fk Sha
set_option maxRecDepth 100000 in
set_option maxHeartbeats 4000000 in
theorem encode_list (l : List Int) (A : Option Addr) (c : Nat) (w : World) (h : SlV w w.heap.size (.slice A l.length c) l) (hs : smallI l) (hp : 1 ≤ l.length) (hl : l.length ≤ 1000) :
    Calls Tryz.prog 142 #[listV A l.length c] w fun e w' => ∃ v, e = .returned (.tuple #[v, .int .i64 0]) ∧ ownB w' v (encL l) ∧ Below w.heap.size w w' := by
  have HS := Lib.hid h
  have HN := Lib.hid hs
  clear h hs
  have hB0 := below_alloc' w (.cells #[.int .i64 3, .int .i64 0, .string ⟨#[]⟩, .slice A l.length c] 173)
  have r0 := Row.new w 173 [.int .i64 3, .int .i64 0, .string ⟨#[]⟩, .slice A l.length c]
  have hz : w.heap.size < (w.alloc (.cells #[.int .i64 3, .int .i64 0, .string ⟨#[]⟩, .slice A l.length c] 173)).heap.size := by simp
  go_enter Tryz.func142, Tryz.ntmps142
  obtain ⟨W, hW⟩ : ∃ W, w.alloc (.cells #[.int .i64 3, .int .i64 0, .string ⟨#[]⟩, .slice A l.length c] 173) = W := ⟨_, rfl⟩
  replace r0 : Row W w.heap.size 173 [.int .i64 3, .int .i64 0, .string ⟨#[]⟩, .slice A l.length c] := hW ▸ r0
  rw [hW] at hB0 hz
  have hck := ccheck_list l A c W ((HS.out.below hB0).mono hB0.size) hp
  have HCK := Lib.hid hck
  clear hck
  go_upto_region 1 with fail
  clear hW
  obtain ⟨k0, k1, k2, k3⟩ := st4 r0
  go_upto_region 4 with (go_at_call 158; (with_reducible refine HCK.out.mono ?_); rintro e w1 ⟨rfl, hb⟩; replace r0 := r0.below hb hz; replace hB0 := hB0.trans (hb.mono hB0.size); replace hz := lt_of_lt_of_le' hz hb.size; clear k0 k1 k2 k3; obtain ⟨k0, k1, k2, k3⟩ := st4 r0)
  refine wp_region_ord 8 [(1, 1), (1, 2), (1, 7), (2, 0), (2, 3), (2, 4), (2, 5), (2, 6)] (fun w' => w'.cell? ⟨w.heap.size, 0, none⟩ = some (.int .i64 3) ∧ w'.cell? ⟨w.heap.size, 1, none⟩ = some (.int .i64 0) ∧ w'.cell? ⟨w.heap.size, 2, none⟩ = some (.string ⟨#[]⟩) ∧ w'.cell? ⟨w.heap.size, 3, none⟩ = some (.slice A l.length c)) (by kernel_rfl) (by kernel_rfl) (fun _ _ d _ _ h => by cases d <;> exact h) ⟨k0, k1, k2, k3⟩ ?_
  replace hB0 : Below w.heap.size w w1.drew := hB0.drew
  replace r0 : Row w1.drew w.heap.size 173 [.int .i64 3, .int .i64 0, .string ⟨#[]⟩, .slice A l.length c] := r0
  replace hz : w.heap.size < w1.drew.heap.size := hz
  clear k0 k1 k2 k3
  generalize w1.drew = W1 at *
  iterate 3
    refine wpOrd_take (v := ?_) rfl (by rfl) (fun w hSw => ?_) ?_
    rotate_left 1
    · obtain ⟨k0, k1, k2, k3⟩ := hSw
      go_simp
      with_reducible rfl
    simp only [Act.put, List.setIfInBounds_toArray, List.set_cons_zero, List.set_cons_succ]
  refine wpOrd_step rfl (fun K hK => ⟨by rfl, ?_⟩)
  go_simp
  go_at_call 159
  refine (newWriter_any _).mono ?_
  rintro e w2 ⟨rfl, hwt, hb⟩
  replace r0 := r0.below hb hz
  replace hB0 := hB0.trans (hb.mono hB0.size)
  have k := st4 r0
  refine hK _ _ k ?_
  clear hK K
  obtain ⟨e0, e1, e2, e3⟩ := st4 hwt.tab
  iterate 4
    refine wpOrd_step rfl (fun K hK => ⟨by rfl, ?_⟩)
    go_simp
    refine hK _ _ k ?_
    clear hK K
  refine wpOrd_nil ?_
  simp only [List.drop_succ_cons, List.drop_zero]
  have hS2 := (HS.out.below hB0).mono hB0.size
  have hwl := write_list l A c W1.heap.size w2 hS2 HN.out hl hwt
  have HWL := Lib.hid hwl
  clear hwl hS2 k e0 e1 e2 e3
  go_wp2_with (go_at_call 180; (with_reducible refine HWL.out.mono ?_); rintro e w3 ⟨v', rfl, ho, hb3⟩)
  go_ret2
  exact ⟨v', rfl, ho, hB0.trans (hb3.mono hB0.size)⟩
end Go.Proofs.YthckledagggoiaaGreatDoor

set_option linter.unusedSimpArgs false
set_option linter.unusedVariables false
namespace Go.Proofs.YthckledagggoiaaGreatDoor
open Go.RowKit Fk Sha
theorem own_slG {α : Type} [Inhabited α] {m : Nat} {enc : α → List Value} {w : World} {base n : Nat} {e : TypeId} {v : Value} {l : List α} (h : w.ownsRow base e m v n (l.flatMap enc)) (hm : ∀ a, (enc a).length = m) (hn : n = l.length) (hl : l.length ≤ 9223372036854775807) :
    SlG m enc w w.heap.size v l := by
  subst hn
  rcases h.2 with ⟨rfl, h0⟩ | ⟨g, cap, cur, rfl, hb, hg, hnc, hc, hcs, ht⟩
  · obtain rfl : l = [] := List.eq_nil_of_length_eq_zero h0
    exact SlG.nil_ _ _
  · have hr : Row w g e cur.toList := by show w.heap[g]? = _; rw [hg]
    refine ⟨hl, _, _, rfl, fun hp => ⟨g, 0, rfl, hr.lt, ?_⟩⟩
    have hrow : Row (w.alloc (.cells (l.flatMap enc).toArray e)) w.heap.size e (l.flatMap enc) := Row.new w e _
    obtain ⟨_, A, c, hv, hE⟩ := Row.sl (c := 0) hrow hm hl (B0 := w.heap.size + 1) (by omega)
    obtain ⟨b, off, hA, _, hE⟩ := hE hp
    injection hv with hv1 hv2 hv3
    rw [hA] at hv1
    injection hv1 with hv1
    injection hv1 with hb' ho'
    intro i hi j hj
    have h2 := hE i hi j hj
    rw [← hb', ← ho', hrow.cell] at h2
    rw [hr.cell, ← h2, ← ht, List.getElem?_take_of_lt]
    have : (i + 1) * m ≤ l.length * m := Nat.mul_le_mul_right m (by omega)
    rw [Nat.succ_mul] at this
    omega
theorem infoV4 : (Tryz.prog.info? 173).map (fun i => (i.zero, i.size, i.bytes)) = some (some (.agg #[.int .i64 0, .int .i64 0, .string ⟨#[]⟩, .slice none 0 0]), 4, 56) := by kernel_rfl
theorem cell_four (w : World) (a b c d : Value) (t : TypeId) : ∀ j u, [a, b, c, d][j]? = some u → (w.alloc (.cells #[a, b, c, d] t)).cell? ((⟨w.heap.size, 0, none⟩ : Addr).add j) = some u := by
  intro j u hj
  match j, hj with
  | 0, hj => simp at hj; subst hj; simp [Addr.add]
  | 1, hj => simp at hj; subst hj; simp [Addr.add]
  | 2, hj => simp at hj; subst hj; simp [Addr.add]
  | 3, hj => simp at hj; subst hj; simp [Addr.add]
  | (j + 4), hj => simp at hj
end Go.Proofs.YthckledagggoiaaGreatDoor

set_option linter.unusedSimpArgs false
set_option linter.unusedVariables false
namespace Go.Proofs.YthckledagggoiaaGreatDoor
open Go.RowKit Fk Sha
theorem take_flatV {l : List Int} {k : Nat} (h : k < l.length) : (l.take (k + 1)).flatMap encV = (l.take k).flatMap encV ++ [.int .i64 1, .int .i64 (l.getD k default), .string ⟨#[]⟩, .slice none 0 0] := by
  rw [List.take_add_one, List.flatMap_append, List.getElem?_eq_getElem h, List.getD_eq_getElem?_getD, List.getElem?_eq_getElem h]
  simp [encV]
end Go.Proofs.YthckledagggoiaaGreatDoor
