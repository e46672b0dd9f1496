import Derived.Test.YtaheibbbdglcmaaDoorDg5
import Derived.Deep.Cut
namespace Go.Proofs.YtaheibbbdglcmaaDoor
open Go.RowKit Fk Sha
/-! The reference's end of the bytes. -/
/-- one byte more, out of a block of one cell -/
theorem one_slB (w : World) (c : B) (z : Value) (hz : z = bv c) (g : Nat) (hg : g = w.heap.size) : SlB (w.alloc (.cells #[z] 5)) (w.heap.size + 1) (.slice (some ⟨g, 0, none⟩) 1 1) [c] ∧ capB (.slice (some ⟨g, 0, none⟩) 1 1) := by
  subst hg
  subst hz
  refine ⟨?_, _, _, _, rfl, Nat.le_refl _, by omega, fun h => by cases h⟩
  exact Row.sl (c := 1) (m := 1) (enc := encB) (l := [c]) (Row.new w _ _) (fun _ => rfl) (by simp) (Nat.lt_succ_self _)
theorem own_emptyB (W : World) : (W.alloc (.cells #[] 5)).ownsRow W.heap.size 5 1 (.slice (some ⟨W.heap.size, 0, none⟩) 0 0) 0 (([] : List B).map bv) :=
  ⟨rfl, .inr ⟨W.heap.size, 0, #[], rfl, Nat.le_refl _, Row.new W _ [], Nat.le_refl _, by unfold maxLen; omega, rfl, rfl⟩⟩
theorem zeros_le (n : Nat) : zeros n ≤ 63 := by unfold zeros; omega
theorem zeros_no {n j : Nat} (h : j < zeros n) : (n + 1 + j) % 64 ≠ 56 := by unfold zeros at h; omega
theorem zeros_yes (n : Nat) : (n + 1 + zeros n) % 64 = 56 := by unfold zeros; omega
set_option maxRecDepth 100000 in
set_option maxHeartbeats 4000000 in
theorem padded_any (l : List B) (v : Value) (w : World) (h : SlB w w.heap.size v l) (hc : capB v) (hl : l.length ≤ 1099511627776) :
    Calls Tryd.prog 82 #[v] w fun e w' => ∃ v', e = .returned v' ∧ SlB w' w'.heap.size v' (padL l) ∧ capB v' ∧ (∀ a n c, v' = .slice (some a) n c → w.heap.size ≤ a.block) ∧ Below w.heap.size w w' := by
  have HS := Lib.hid h
  have HC := Lib.hid hc
  obtain ⟨A, n, c, rfl, _⟩ := hc
  obtain rfl : n = l.length := by obtain ⟨_, _, _, hv, _⟩ := h; injection hv
  clear h
  go_enter Tryd.func82, Tryd.ntmps82
  have HO := Lib.hid (own_emptyB w)
  have HE := Lib.hid (HS.out.below ((Below.refl w.heap.size w).alloc (Nat.le_refl _) (.cells #[] 5)))
  go_upto_region 2 with (first
    | (at_builtin; refine wpList_app rfl _ _ rfl w.heap.size _ 0 [] rfl HO.out _ rfl l _ HE.out HC.out (by omega) (by simp) ?_; intro v1 w2 hown2 hg2)
    | (at_builtin; refine wpList_app rfl _ _ rfl w.heap.size v1 (0 + l.length) ([] ++ l) rfl (hown2.alloc _) _ rfl [0x80#8] _ (one_slB w2 0x80#8 _ rfl _ rfl).1 (one_slB w2 0x80#8 _ rfl _ rfl).2 (by simp; omega) (by have := hg2.size; simp at this ⊢; omega) ?_; intro v2 w3 hown3 hg3))
  have hB2 : Below w.heap.size w w2 := ((Below.refl w.heap.size w).alloc (Nat.le_refl _) _).grown hg2 (by simp) (fun r e => by cases e; exact Nat.le_refl _)
  have hB3 : Below w.heap.size w w3 := (hB2.alloc hB2.size _).grown hg3 (by have := hB2.size; simp; omega) (fun r e => (hown2.lt r e).1)
  have hw3 : w3.ownsRow w.heap.size 5 1 v2 (l.length + 1 + 0) ((l ++ 0x80#8 :: List.replicate 0 0#8).map bv) := by simpa using hown3
  clear HO HE hown2 hg2 hown3 hg3 hB2
  go_loopg [3] (zeros l.length) (fun gk v wr => ∃ j : Nat, j + gk = zeros l.length ∧ wr.ownsRow w.heap.size 5 1 v (l.length + 1 + j) ((l ++ 0x80#8 :: List.replicate j 0#8).map bv) ∧ Below w.heap.size w wr)
  case atStart => exact ⟨0, by omega, hw3, hB3⟩
  case round =>
    clear hw3 hB3
    obtain ⟨j, hj, hown, hB⟩ := hrel
    have hz63 := zeros_le l.length
    obtain ⟨_, A', N, C, rfl, hNC, hC, _⟩ := own_slB hown (by simp; omega) (by simp; omega)
    obtain rfl : N = l.length + 1 + j := by
      rcases hown.2 with ⟨e, h0⟩ | ⟨g, cap, cur, e, _⟩
      · cases e; omega
      · injection e
    by_cases hlt : j < zeros l.length
    · have hno : (((l.length + 1 + j : Nat) : Int) % 64 != 56) = true := by
        have := zeros_no hlt
        rw [bne_iff_ne]; omega
      have HO := Lib.hid hown
      have HB := Lib.hid hB
      have hsz := hB.size
      have hon := one_slB wr 0#8 (.int .u8 0) rfl wr.heap.size rfl
      have HN := Lib.hid hon
      clear hown hB hon
      obtain ⟨M, hM⟩ : ∃ M, l.length + 1 + j = M := ⟨_, rfl⟩
      rw [hM] at hno HO
      rw [hM]
      have HM := Lib.hid hM
      have hMb : M ≤ 1099511627841 := by omega
      clear hM
      go_wp2_with (at_builtin; refine wpList_app rfl _ _ rfl w.heap.size _ M _ rfl (HO.out.alloc _) _ rfl [0#8] _ HN.out.1 HN.out.2 (by simp; omega) (by simp; omega) ?_; intro v3 w4 hown3 hg3)
      go_roundg (gk - 1)
      case measure => omega
      case rel =>
        refine ⟨j + 1, by omega, ?_, (HB.out.alloc hsz _).grown hg3 (by simp; omega) (fun r e => (HO.out.lt r e).1)⟩
        have e1 : l ++ 0x80#8 :: List.replicate (j + 1) 0#8 = (l ++ 0x80#8 :: List.replicate j 0#8) ++ [0#8] := by rw [List.append_assoc, List.cons_append, List.replicate_succ']
        rw [e1, ← Nat.add_assoc, HM.out]
        exact hown3
    · obtain rfl : j = zeros l.length := by omega
      have hyes : (((l.length + 1 + zeros l.length : Nat) : Int) % 64 != 56) = false := by
        have := zeros_yes l.length
        rw [bne_eq_false_iff_eq]; omega
      have HO := Lib.hid hown
      have HB := Lib.hid hB
      clear hown hB
      obtain ⟨M, hM⟩ : ∃ M, l.length + 1 + zeros l.length = M := ⟨_, rfl⟩
      rw [hM] at hyes HO
      rw [hM]
      have HM := Lib.hid hM
      have hMb : M ≤ 1099511627841 := by omega
      clear hM hz63
      have hl8 : (0 : Int) ≤ (l.length : Int) * 8 := by omega
      go_wp2_with fail
      have hx : 8 * l.length % 2 ^ 64 = l.length * 8 := by rw [Nat.mod_eq_of_lt (by omega)]; omega
      have hpad : padL l = (l ++ 0x80#8 :: List.replicate (zeros l.length) 0#8) ++ be 8 (l.length * 8) := by unfold padL; rw [hx, List.append_assoc, List.cons_append]
      have HPAD := Lib.hid hpad
      clear hx hpad
      generalize (l ++ 0x80#8 :: List.replicate (zeros l.length) 0#8) = L0 at *
      have hstart : wr.ownsRow w.heap.size 5 1 (.slice A' M C) (M + 0) ((L0 ++ (be 8 (l.length * 8)).take 0).map bv) := by rw [List.take_zero, List.append_nil]; exact HO.out
      have hB0 := HB.out
      clear HO HB
      go_loopg [3, 5] 8 (fun gk v i wr => ∃ k : Nat, i = .int .i64 (7 - (k : Int)) ∧ k + gk = 8 ∧ wr.ownsRow w.heap.size 5 1 v (M + k) ((L0 ++ (be 8 (l.length * 8)).take k).map bv) ∧ Below w.heap.size w wr)
      case atStart => exact ⟨0, rfl, rfl, hstart, hB0⟩
      case round =>
        clear hstart hB0
        obtain ⟨k, rfl, hk, hown, hB⟩ := hrel
        by_cases hlt : k < 8
        · obtain ⟨i, hi⟩ : ∃ i : Nat, (7 : Int) - k = i := ⟨7 - k, by omega⟩
          have hi2 : i = 7 - k := by omega
          rw [hi]
          have hbe : (be 8 (l.length * 8)).take (k + 1) = (be 8 (l.length * 8)).take k ++ [BitVec.ofNat 8 (l.length * 8 / 2 ^ (8 * i))] := by
            rw [List.take_succ_eq_append_getElem (by rw [be_length]; exact hlt)]
            have := be_getD (n := 8) (x := l.length * 8) hlt
            rw [List.getElem?_eq_getElem (by rw [be_length]; exact hlt)] at this
            rw [Option.some.inj this, hi2, show 8 - 1 - k = 7 - k by omega]
          have hz : Value.int .u8 ((l.length : Int) * 8 / 2 ^ (8 * i) % 256) = bv (BitVec.ofNat 8 (l.length * 8 / 2 ^ (8 * i))) := by
            unfold bv bn
            rw [BitVec.toNat_ofNat, Int.natCast_emod, Int.natCast_ediv, Int.natCast_pow, Int.natCast_mul]
            rfl
          have hx1 : (l.length : Int) * 8 < 18446744073709551616 := by omega
          generalize (l.length : Int) * 8 = X at *
          have hon := one_slB wr _ _ hz wr.heap.size rfl
          have hsz := hB.size
          have HO := Lib.hid hown
          have HB := Lib.hid hB
          have HN := Lib.hid hon
          have HBE := Lib.hid hbe
          have HI := Lib.hid hi
          have hib : i < 8 := by omega
          clear hown hB hon hbe hi hi2 hz
          go_wp2_with (at_builtin; refine wpList_app rfl _ _ rfl w.heap.size _ (M + k) _ rfl (HO.out.alloc _) _ rfl [BitVec.ofNat 8 (l.length * 8 / 2 ^ (8 * i))] _ HN.out.1 HN.out.2 (by simp; omega) (by simp; omega) ?_; intro v3 w4 hown3 hg3)
          go_roundg (gk - 1)
          case measure => omega
          case rel =>
            refine ⟨k + 1, ?_, by omega, ?_, (HB.out.alloc hsz _).grown hg3 (by simp; omega) (fun r e => (HO.out.lt r e).1)⟩
            · rw [← HI.out]; congr 1; omega
            · rw [HBE.out, ← List.append_assoc]
              exact hown3
        · obtain rfl : k = 8 := by omega
          rw [List.take_of_length_le (by rw [be_length]; omega), ← HPAD.out] at hown
          obtain ⟨q1, q2⟩ := own_slB hown (by rw [padL_length]; have := HM.out; omega) (by rw [padL_length]; have := zeros_le l.length; omega)
          have q3 : ∀ a n c, u3 = .slice (some a) n c → w.heap.size ≤ a.block := fun a n c h => (hown.lt a.block (by rw [h]; rfl)).1
          have Q3 := Lib.hid q3
          have Q1 := Lib.hid q1
          have Q2 := Lib.hid q2
          have HB := Lib.hid hB
          clear hown hB q1 q2 q3
          go_wp2_with fail
          go_ret
          exact ⟨_, rfl, Q1.out, Q2.out, Q3.out, HB.out⟩
end Go.Proofs.YtaheibbbdglcmaaDoor
