import Derived.Test.YtlbnbginippjfaaGroup
import Derived.RangeFuncNested
import Derived.RangeFuncBound
import Derived.RangeFuncCalls
import Derived.RangeFuncLeaves
import Derived.Shelf.Abstract
import Derived.Shelf.RegionOpen
import Derived.OwnWalkIn
import Derived.TacticsInMore
import Derived.LoopNIn
import Derived.LoopIn
namespace Go.Proofs.Ytlbnbginippjfaa
open Go.RowKit Go.Shelf Fk
attribute [local go_sem] Oper.semAt_some

def cellNat (w : World) (b : Nat) : Nat := match w.cell? ⟨b, 0, none⟩ with
  | some v => (intOf v).toNat
  | none => 0

theorem ofInt_i64 (a : Nat) (ha : a < 9223372036854775808) : (BitVec.ofInt 64 (a : Int)).toNat = a := by
  rw [BitVec.ofInt_natCast, BitVec.toNat_ofNat]; exact Nat.mod_eq_of_lt (by omega)
theorem bits_one (a : Nat) (ha : a < 9223372036854775808) : bits .and .i64 (a : Int) 1 = ((a % 2 : Nat) : Int) := by
  show IntKind.i64.wrap ((BitVec.ofInt 64 (a : Int) &&& BitVec.ofInt 64 1).toNat : Int) = _
  rw [BitVec.toNat_and, ofInt_i64 a ha]
  have e : (BitVec.ofInt 64 1).toNat = 1 := by decide
  rw [e, Nat.and_one_is_mod, IntKind.wrap_i64]
  omega
theorem lt_of_drop_cons {α : Type} {l : List α} {k : Nat} {x : α} {r : List α} (h : l.drop k = x :: r) : k < l.length := by
  rcases Nat.lt_or_ge k l.length with h1 | h1
  · exact h1
  · rw [List.drop_eq_nil_of_le h1] at h; cases h
theorem le_of_drop_nil {α : Type} {l : List α} {k : Nat} (h : ([] : List α) = l.drop k) : l.length ≤ k := List.drop_eq_nil_iff.1 h.symm
theorem sq_small {x : Nat} (h : x < 2147483579) : 0 ≤ (x : Int) * x ∧ (x : Int) * x ≤ 2147483579 * 2147483579 := by
  have m2 : x * x ≤ 2147483579 * 2147483579 := Nat.mul_le_mul (by omega) (by omega)
  have m4 : (x : Int) * x = ((x * x : Nat) : Int) := by simp
  omega

set_option maxHeartbeats 1000000 in
theorem squares_seq (a n : Nat) (ha : a < 2147483579) (hn : n < 2147483579) (ba bn K : Nat) (hne : ba ≠ bn) (m : Nat) (hm : 1 ≤ m) :
    SeqL Fence.wide m Try.prog 62 #[.pointer (some ⟨bn, 0, none⟩), .pointer (some ⟨ba, 0, none⟩)] ((sqList n a n).map fun p => #[.int .i64 (p.1 : Int), .bool p.2])
      (fun r => r = ba ∨ r = bn) (fun r => r = ba ∨ r = bn) (fun W => Boxed W ba 3 (.int .i64 a) ∧ Boxed W bn 3 (.int .i64 n)) K := fun l J Jx W hT hK hJ hJx hY h0 => by
  refine callsIn_of_wp Try.func62 rfl trivial ?_ rfl
  simp only [Try.ntmps62, List.size_toArray, List.length_cons, List.length_nil, Nat.reduceAdd, Nat.reduceSub, Array.replicate_succ, Array.replicate_zero, List.push_toArray, List.append_toArray, List.nil_append, List.cons_append]
  gi_wp2
  gi_loopw [] (fun wr => ∃ (k x n' f : Nat), Boxed wr ba 3 (.int .i64 x) ∧ Boxed wr bn 3 (.int .i64 n') ∧ J k wr ∧ K ≤ wr.heap.size ∧ k ≤ (sqList n a n).length ∧ n' ≤ f ∧ x < 2147483579 ∧ n' < 2147483579 ∧ Hid (sqList f x n' = (sqList n a n).drop k)) (fun wr => cellNat wr bn)
  case atStart => exact ⟨0, a, n, n, hT.1, hT.2, h0, by omega, Nat.zero_le _, Nat.le_refl _, ha, hn, rfl⟩
  case round =>
    obtain ⟨k, x, n', f, hBa, hBn, hJk, hKw, hkl, hf, hx, hn', hL⟩ := hrel
    have c1 := hBa.cell
    have c2 := hBn.cell
    have c3 := hBa.frozen
    have c4 := hBn.frozen
    by_cases h0' : 0 < n'
    · obtain ⟨f', hf', hsq⟩ := sqList_pos (a := x) h0' hf
      by_cases hp : n' % 2 = 1
      · have hv : ((sqList n a n).map fun p => (#[.int .i64 (p.1 : Int), .bool p.2] : Array Value))[k]? = some #[.int .i64 (x : Int), .bool true] := by
          have hpb : (n' % 2 == 1) = true := by simp [hp]
          have e : (sqList n a n)[k]? = some (x, true) := by
            have := congrArg (fun l => l[0]?) (hL.out.symm.trans hsq)
            simpa [hpb] using this
          rw [List.getElem?_map, e]; rfl
        have hL2 : Hid (sqList f' (x * x % 2147483579) (n' / 2) = (sqList n a n).drop (k + 1)) := by
          have := congrArg List.tail (hsq.symm.trans hL.out)
          rw [List.tail_cons, List.tail_drop] at this
          exact this
        obtain ⟨fn, tmps, assign, body, hy, hR⟩ := hY k _ wr hJk hKw hv
        have hb : bits .and .i64 (n' : Int) 1 = 1 := by rw [bits_one _ (by omega)]; omega
        have HSQ := hL.out.symm.trans hsq
        have HSQ' := Lib.hid HSQ
        clear hv hsq hL hp HSQ
        gi_wp2
        refine hR.mono ?_
        rintro e W3 (⟨rfl, hJ3, hS3, hz3⟩ | ⟨rfl, hJx3⟩)
        · have hBa3 : Boxed W3 ba 3 (.int .i64 x) := (hS3 ba (.inl rfl)).trans hBa
          have hBn3 : Boxed W3 bn 3 (.int .i64 n') := (hS3 bn (.inr rfl)).trans hBn
          have c5 := hBa3.cell
          have c6 := hBn3.cell
          have c7 := hBa3.frozen
          have c8 := hBn3.frozen
          have c9 : (W3.setCell ⟨ba, 0, none⟩ (.int .i64 ((x : Int) * x % 2147483579))).cell? ⟨bn, 0, none⟩ = some (.int .i64 n') := (hBn3.other (Ne.symm hne) _).cell
          have c10 : (W3.setCell ⟨ba, 0, none⟩ (.int .i64 ((x : Int) * x % 2147483579))).frozen? ⟨bn, 0, none⟩ = false := (hBn3.other (Ne.symm hne) _).frozen
          clear c1 c2 c3 c4 hb hy hR hY
          have hs := sq_small hx
          gi_wp2
          refine ⟨?rel, ?measure⟩
          case rel =>
            refine ⟨k + 1, x * x % 2147483579, n' / 2, f', ?_, ?_, ?_, ?_, lt_of_drop_cons HSQ'.out, hf', Nat.mod_lt _ (by omega), by omega, hL2⟩
            · have := (hBa3.set (.int .i64 ((x : Int) * x % 2147483579))).other (B' := bn) hne (.int .i64 ((n' : Int) / 2))
              simpa using this
            · have := (hBn3.other (B' := ba) (Ne.symm hne) (.int .i64 ((x : Int) * x % 2147483579))).set (.int .i64 ((n' : Int) / 2))
              simpa using this
            · exact hJ (k + 1) _ _ (some bn) (hJ (k + 1) _ _ (some ba) hJ3 (grownBy_setCell' W3 ba _) (fun r e => by cases e; exact .inl rfl)) (grownBy_setCell' _ bn _) (fun r e => by cases e; exact .inr rfl)
            · simp [World.setCell]; omega
          case measure =>
            have e1 := ((hBn3.other (B' := ba) (Ne.symm hne) (.int .i64 ((x : Int) * x % 2147483579))).set (.int .i64 ((n' : Int) / 2))).cell
            simp only [cellNat]
            rw [e1, hBn.cell]
            simp [intOf]; omega
        · gi_wp2
          refine bodyPost_ret (results_none rfl _ _ _) rfl ?_
          exact ⟨⟨_, rfl⟩, .inr ⟨k, by rw [List.length_map]; exact lt_of_drop_cons HSQ'.out, hJx3⟩⟩
      · have hv : ((sqList n a n).map fun p => (#[.int .i64 (p.1 : Int), .bool p.2] : Array Value))[k]? = some #[.int .i64 (x : Int), .bool false] := by
          have hpb : (n' % 2 == 1) = false := by simpa using hp
          have e : (sqList n a n)[k]? = some (x, false) := by
            have := congrArg (fun l => l[0]?) (hL.out.symm.trans hsq)
            simpa [hpb] using this
          rw [List.getElem?_map, e]; rfl
        have hL2 : Hid (sqList f' (x * x % 2147483579) (n' / 2) = (sqList n a n).drop (k + 1)) := by
          have := congrArg List.tail (hsq.symm.trans hL.out)
          rw [List.tail_cons, List.tail_drop] at this
          exact this
        obtain ⟨fn, tmps, assign, body, hy, hR⟩ := hY k _ wr hJk hKw hv
        have hb : bits .and .i64 (n' : Int) 1 = 0 := by rw [bits_one _ (by omega)]; omega
        have HSQ := hL.out.symm.trans hsq
        have HSQ' := Lib.hid HSQ
        clear hv hsq hL hp HSQ
        gi_wp2
        refine hR.mono ?_
        rintro e W3 (⟨rfl, hJ3, hS3, hz3⟩ | ⟨rfl, hJx3⟩)
        · have hBa3 : Boxed W3 ba 3 (.int .i64 x) := (hS3 ba (.inl rfl)).trans hBa
          have hBn3 : Boxed W3 bn 3 (.int .i64 n') := (hS3 bn (.inr rfl)).trans hBn
          have c5 := hBa3.cell
          have c6 := hBn3.cell
          have c7 := hBa3.frozen
          have c8 := hBn3.frozen
          have c9 : (W3.setCell ⟨ba, 0, none⟩ (.int .i64 ((x : Int) * x % 2147483579))).cell? ⟨bn, 0, none⟩ = some (.int .i64 n') := (hBn3.other (Ne.symm hne) _).cell
          have c10 : (W3.setCell ⟨ba, 0, none⟩ (.int .i64 ((x : Int) * x % 2147483579))).frozen? ⟨bn, 0, none⟩ = false := (hBn3.other (Ne.symm hne) _).frozen
          clear c1 c2 c3 c4 hb hy hR hY
          have hs := sq_small hx
          gi_wp2
          refine ⟨?rel, ?measure⟩
          case rel =>
            refine ⟨k + 1, x * x % 2147483579, n' / 2, f', ?_, ?_, ?_, ?_, lt_of_drop_cons HSQ'.out, hf', Nat.mod_lt _ (by omega), by omega, hL2⟩
            · have := (hBa3.set (.int .i64 ((x : Int) * x % 2147483579))).other (B' := bn) hne (.int .i64 ((n' : Int) / 2))
              simpa using this
            · have := (hBn3.other (B' := ba) (Ne.symm hne) (.int .i64 ((x : Int) * x % 2147483579))).set (.int .i64 ((n' : Int) / 2))
              simpa using this
            · exact hJ (k + 1) _ _ (some bn) (hJ (k + 1) _ _ (some ba) hJ3 (grownBy_setCell' W3 ba _) (fun r e => by cases e; exact .inl rfl)) (grownBy_setCell' _ bn _) (fun r e => by cases e; exact .inr rfl)
            · simp [World.setCell]; omega
          case measure =>
            have e1 := ((hBn3.other (B' := ba) (Ne.symm hne) (.int .i64 ((x : Int) * x % 2147483579))).set (.int .i64 ((n' : Int) / 2))).cell
            simp only [cellNat]
            rw [e1, hBn.cell]
            simp [intOf]; omega
        · gi_wp2
          refine bodyPost_ret (results_none rfl _ _ _) rfl ?_
          exact ⟨⟨_, rfl⟩, .inr ⟨k, by rw [List.length_map]; exact lt_of_drop_cons HSQ'.out, hJx3⟩⟩
    · obtain rfl : n' = 0 := by omega
      rw [sqList_zero] at hL
      have hk := le_of_drop_nil hL.out
      clear hL
      gi_wp2
      go_end0
      exact ⟨⟨_, rfl⟩, .inl (by rw [List.length_map, Nat.le_antisymm hk hkl]; exact hJk)⟩

/-! ### the exponent, and the iterator's maker -/
set_option maxHeartbeats 400000 in
theorem least_one (n : Int) (ad : Addr) (w : World) (hc : w.cell? ad = some (.int .i64 n)) :
    Calls Try.prog 52 #[.slice (some ad) 1 1] w fun e w' => e = .returned (.int .i64 (n % 1073741789)) ∧ w = w' := by
  have t1 := Int.tmod_lt_of_pos n (show (0 : Int) < 1073741789 by omega)
  have t2 : -1073741789 < n.tmod 1073741789 := Int.lt_tmod_of_pos n (by omega)
  have e1 : (n.tmod 1073741789 + 1073741789) % 1073741789 = n % 1073741789 := tmod_add_mod (by omega)
  have hc0 : w.cell? (ad.add 0) = some (.int .i64 n) := by simpa [Addr.add] using hc
  have H := Lib.hid e1
  clear e1
  go_enter Try.func52, Try.ntmps52
  go_wp2
  refine wp_loop_rounds 2 ?_
  rw [rounds_succ]
  go_wp2
  rw [rounds_succ]
  go_wp2
  go_ret
  exact ⟨ret_int H.out, rfl⟩

set_option maxHeartbeats 400000 in
theorem squares_any (a n : Int) (w : World) :
    Calls Try.prog 51 #[.int .i64 a, .int .i64 n] w fun e w' => e = .returned (.func (.func 62) #[] #[.pointer (some ⟨w.heap.size + 1, 0, none⟩), .pointer (some ⟨w.heap.size, 0, none⟩)]) ∧
      (w.alloc (.cells #[.int .i64 a] 3)).alloc (.cells #[.int .i64 n] 3) = w' := by
  go_enter Try.func51, Try.ntmps51
  go_wp2
  go_ret
  exact ⟨rfl, rfl⟩

set_option maxHeartbeats 400000 in
theorem pow_no (a n : Int) (hv : vld a = false) (w : World) :
    Calls Try.prog 29 #[.int .i64 a, .int .i64 n] w fun e w' => e = .returned (.tuple #[.int .i64 0, .int .i64 90]) ∧ Below w.heap.size w w' := by
  go_enter Try.func29, Try.ntmps29
  go_wp2_with (go_at_call 32; refine (valid_any _ _).mono ?_; rintro e w' ⟨rfl, rfl⟩)
  exact bodyPost_ret (v := .tuple #[.int .i64 0, .int .i64 90]) (by simp [results, Try.results29, go_sem]) rfl ⟨rfl, (Below.refl _ _).alloc (Nat.le_refl _) _⟩

set_option maxHeartbeats 1000000 in
theorem pow_nat (A : Nat) (n : Int) (M : Nat) (hv : vld (A : Int) = true) (hAlt : A < 2147483579) (hMlt : M < 2147483579) (hM : n % 1073741789 = (M : Int)) (w : World) :
    Calls Try.prog 29 #[.int .i64 (A : Int), .int .i64 n] w fun e w' => e = .returned (.tuple #[.int .i64 ((A ^ M % 2147483579 : Nat) : Int), .int .i64 0]) ∧ Below w.heap.size w w' := by
  refine (callsIn_wide (n := 3)).1 ?_
  refine callsIn_of_wp_marks Try.func29 rfl trivial ?_ rfl
  simp only [Try.ntmps29, List.size_toArray, List.length_cons, List.length_nil, Nat.reduceAdd, Nat.reduceSub, Array.replicate_succ, Array.replicate_zero, List.push_toArray, List.append_toArray, List.nil_append, List.cons_append]
  gi_wp2_with (first | (refine ⟨trivial, ?_⟩; gi_at_call 32; refine (callsIn_wide.2 (valid_any _ _)).mono ?_; rintro e w' ⟨rfl, rfl⟩) | (refine ⟨trivial, ?_⟩; gi_at_call 52; refine (callsIn_wide.2 (least_one n _ _ ?hc)).mono ?_; rotate_left; rintro e w' ⟨rfl, rfl⟩) | (refine ⟨trivial, ?_⟩; gi_at_call 51; refine (callsIn_wide.2 (squares_any _ _ _)).mono ?_; rintro e w' ⟨rfl, rfl⟩))
  case hc => simp
  clear hM
  obtain ⟨W0, hW0⟩ : ∃ W0 : World, (((w.alloc (Obj.cells #[Value.int IntKind.i64 1] 3)).alloc (Obj.cells #[Value.int IntKind.i64 n] 3)).alloc (Obj.cells #[Value.int IntKind.i64 (A : Int)] 3)).alloc
        (Obj.cells #[Value.int IntKind.i64 (M : Int)] 3) = W0 := ⟨_, rfl⟩
  have hz : W0.heap.size = w.heap.size + 4 := by rw [← hW0]; simp
  have hbC : Boxed W0 w.heap.size 3 (.int .i64 1) := by rw [← hW0]; exact (((Boxed.new w _ _).alloc _).alloc _).alloc _
  have hbA : Boxed W0 (w.heap.size + 2) 3 (.int .i64 A) := by
    rw [← hW0]
    have := (Boxed.new ((w.alloc (Obj.cells #[Value.int IntKind.i64 1] 3)).alloc (Obj.cells #[Value.int IntKind.i64 n] 3)) 3 (.int .i64 A)).alloc (Obj.cells #[Value.int IntKind.i64 (M : Int)] 3)
    simpa using this
  have hbM : Boxed W0 (w.heap.size + 3) 3 (.int .i64 M) := by
    rw [← hW0]
    have := Boxed.new (((w.alloc (Obj.cells #[Value.int IntKind.i64 1] 3)).alloc (Obj.cells #[Value.int IntKind.i64 n] 3)).alloc (Obj.cells #[Value.int IntKind.i64 (A : Int)] 3)) 3 (.int .i64 M)
    simpa using this
  have hbW : Below w.heap.size w W0 := by
    rw [← hW0]
    exact ((((Below.refl _ w).alloc (Nat.le_refl _) _).alloc (by simp) _).alloc (by simp; omega) _).alloc (by simp; omega) _
  rw [hW0]
  clear hW0
  refine wpIn_rangeL (w := W0) rfl (by omega) (gf := 62) (lb := #[.pointer (some ⟨w.heap.size + 3, 0, none⟩), .pointer (some ⟨w.heap.size + 2, 0, none⟩)]) rfl trivial (enters_of Try.func62 (by kernel_rfl) rfl)
    (squares_seq A M hAlt hMlt (w.heap.size + 2) (w.heap.size + 3) _ (by omega) 2 (by omega))
    (fun W hW => ⟨(hW.block _ (by omega)).trans hbA, (hW.block _ (by omega)).trans hbM⟩) (by rw [hz]; omega) (by rw [hz]; omega) (by rw [hz]; omega)
    (fun v hv => by obtain ⟨p, _, rfl⟩ := List.mem_map.1 hv; rfl)
    (fun k W => Boxed W w.heap.size 3 (.int .i64 (sqProd ((sqList M A M).take k) : Nat)) ∧ Below w.heap.size w W) (fun _ _ _ => False)
    (fun k W W' row hs hg hr => ⟨hs.1.kept hg (fun e => by have := hr _ e.symm; omega), hs.2.grown hg hs.2.size (fun r e => by have := hr _ e; omega)⟩)
    (fun _ _ _ _ _ hs _ _ => hs.elim) ⟨hbC, hbW⟩
    (fun k a' _ => ∃ p, (sqList M A M)[k]? = some p ∧ a' = { tmps := #[Value.int IntKind.i64 A, Value.int IntKind.i64 n, undef, undef, Value.pointer (some { block := w.heap.size, off := 0 }), Value.int IntKind.i64 0, .int .i64 (p.1 : Int), .bool p.2,
            Value.int IntKind.i64 A, Value.bool true, Value.bool false, Value.int IntKind.i64 A, Value.int IntKind.i64 n,
            Value.slice (some { block := w.heap.size + 1, off := 0 }) 1 1, Value.int IntKind.i64 M,
            Value.func (Fn.func 62) #[] #[Value.pointer (some { block := w.heap.size + 1 + 1 + 1, off := 0 }), Value.pointer (some { block := w.heap.size + 1 + 1, off := 0 })],
            .int .i64 (p.1 : Int), .bool p.2, undef, undef, undef, undef, undef, undef], defers := [] })
    (fun _ _ _ _ _ _ hs _ _ => hs) ?assign ?body ?done ?stop
  case assign =>
    intro l k v W K hI hv hsz hK
    rw [List.getElem?_map] at hv
    obtain ⟨p, hp, rfl⟩ := Option.map_eq_some_iff.1 hv
    clear hv
    gi_wp2
    exact hK _ _ (Kept.refl _ _) (SameOn.refl _ _) hI ⟨p, hp, rfl⟩
  case body =>
    rintro l k v a' W ⟨hC, hB⟩ ⟨⟨sq, bit⟩, hp, rfl⟩ hv hsz
    have hlt := sqList_lt M A M hAlt _ (List.mem_of_getElem? hp)
    have hclt := sqProd_lt ((sqList M A M).take k)
    have hsn : sqProd ((sqList M A M).take (k + 1)) = if bit then sqProd ((sqList M A M).take k) * sq % 2147483579 else sqProd ((sqList M A M).take k) := by
      rw [List.take_add_one, hp, Option.toList_some, sqProd_snoc]
    dsimp only at hlt
    have H := Lib.hid hsn
    have c1 := hC.cell
    have c2 := hC.frozen
    clear hsn hp hv
    generalize sqProd ((sqList M A M).take k) = c at *
    have m2 : c * sq ≤ 2147483579 * 2147483579 := Nat.mul_le_mul (by omega) (by omega)
    have m4 : (c : Int) * sq = ((c * sq : Nat) : Int) := by simp
    have m5 : 0 ≤ (c : Int) * sq ∧ (c : Int) * sq ≤ 2147483579 * 2147483579 := by omega
    clear m4
    cases bit with
    | true =>
      gi_wp2
      refine ⟨Kept.setCell _ _ (by simp only []; omega) (by simp only []; omega), ?_, ?_, ?_⟩
      · intro r hr; exact Below.heap_setCell _ _ _ r (by rcases hr with h | h <;> (rw [h]; simp))
      · have := hC.set (.int .i64 ((c : Int) * sq % 2147483579))
        rw [H.out]; simpa using this
      · exact hB.setCell (p := ⟨w.heap.size, 0, none⟩) (Nat.le_refl _) _
    | false =>
      gi_wp2
      exact ⟨Kept.refl _ _, SameOn.refl _ _, by rw [H.out]; exact hC, hB⟩
  case done =>
    rintro W ⟨hC, hB⟩ hsz hD
    rw [List.length_map, List.take_length, sqProd_all] at hC
    have c1 := hC.cell
    have c2 := hC.frozen
    obtain ⟨R, hR⟩ : ∃ R, A ^ M % 2147483579 = R := ⟨_, rfl⟩
    rw [hR] at hC c1
    have HR := Lib.hid hR
    clear hR
    gi_wp2
    have hD' : (W.setCell ⟨w.heap.size, 0, none⟩ (.int .i64 (R : Int))).heap[W0.heap.size]? = some (.deferred (some [])) := (Below.heap_setCell _ _ _ _ (by simp; omega)).trans hD
    have hC' := hC.set (.int .i64 (R : Int))
    have hB' : Below w.heap.size w (W.setCell ⟨w.heap.size, 0, none⟩ (.int .i64 (R : Int))) := hB.setCell (p := ⟨w.heap.size, 0, none⟩) (Nat.le_refl _) _
    refine ⟨by simp, .inl ⟨_, _, rfl, run_takeDeferred hD', ?_⟩⟩
    have hC2 := hC'.kept (grownBy_putObj' _ W0.heap.size (.deferred none)) (by simp; omega)
    have c5 := hC2.cell
    refine ⟨.tuple #[.int .i64 R, .int .i64 0], ?_, by rw [HR.out], ?_⟩
    · simp [results, Try.f29, go_sem, c5]
    · exact hB'.grown (grownBy_putObj' _ W0.heap.size (.deferred none)) hB'.size (fun r e => by cases e; omega)
  case stop =>
    rintro c k W _ h _ _
    exact h.elim

theorem pow_any (a n : Int) (w : World) :
    Calls Try.prog 29 #[.int .i64 a, .int .i64 n] w fun e w' => e = .returned (.tuple #[.int .i64 (powC a n), .int .i64 (powE a)]) ∧ Below w.heap.size w w' := by
  by_cases hv : vld a = true
  · have l1 := vld_lo hv
    have l2 := vld_hi hv
    obtain ⟨A, rfl⟩ : ∃ A : Nat, a = (A : Int) := ⟨a.toNat, by omega⟩
    obtain ⟨M, hM⟩ : ∃ M : Nat, n % 1073741789 = (M : Int) := ⟨(n % 1073741789).toNat, by omega⟩
    have e1 : powC (A : Int) n = ((A ^ M % 2147483579 : Nat) : Int) := by
      rw [powC, if_pos hv, pwr, hM]; rfl
    have e2 : powE (A : Int) = 0 := by simp [powE, hv]
    rw [e1, e2]
    exact pow_nat A n M hv (by omega) (by omega) hM w
  · have hv' : vld a = false := by simpa using hv
    have e1 : powC a n = 0 := by simp [powC, hv']
    have e2 : powE a = 90 := by simp [powE, hv']
    rw [e1, e2]
    exact pow_no a n hv' w
end Go.Proofs.Ytlbnbginippjfaa
