import Derived.Test.YtaheibbbdglcmaaDoorRd6
import Derived.Test.YtaheibbbdglcmaaDoorGroupRef
import Derived.IntWalk
namespace Go.Proofs.YtaheibbbdglcmaaDoor
open Go.RowKit Fk Sha
/-! The reference's numbers. -/
set_option maxRecDepth 100000 in
set_option maxHeartbeats 2000000 in
theorem refhash_any (s : ByteArray) (l : List B) (v : Value) (w : World) (h : SlB w w.heap.size v l) (hc : capB v) (hl : l.length ≤ 1099511627000) (hs : s.size ≤ 1099511627000) :
    Calls Tryd.prog 16 #[.string s, v] w fun e w' => e = .returned (.int .i64 (hashN (tagged (sb s) l))) ∧ Below w.heap.size w w' := by
  have ht := reftagged_any s l v w h hc hl hs
  have hlen := tagged_length (sb s) l
  obtain ⟨D, hD⟩ : ∃ D, tagged (sb s) l = D := ⟨_, rfl⟩
  rw [hD] at ht hlen ⊢
  have hst := fun W => store32 D hlen W
  have HT := Lib.hid ht
  have HL := Lib.hid hlen
  clear ht hD h hc hlen
  go_enter Tryd.func16, Tryd.ntmps16
  go_upto_region 2 with (go_at_call 38; (with_reducible refine HT.out.mono ?_); rintro e W1 ⟨rfl, hb1⟩)
  have hR2 : Row (W1.alloc (.cells (D.map bv).toArray 30)) W1.heap.size 30 (D.map bv) := Row.new W1 _ _
  have hB2 : Below w.heap.size w (W1.alloc (.cells (D.map bv).toArray 30)) := hb1.alloc hb1.size _
  generalize W1.alloc (.cells (D.map bv).toArray 30) = W2 at *
  generalize W1.heap.size = g at *
  have hcell : ∀ k, k < 8 → (D.map bv)[k]? = some (.int .u8 (if k = 0 then bn (D.getD 0 0) else (hb D k : Int))) := by
    intro k hk
    rw [List.getElem?_map, List.getElem?_eq_getElem (by rw [HL.out]; omega)]
    by_cases e : k = 0
    · subst e; rw [if_pos rfl, List.getD_eq_getElem?_getD, List.getElem?_eq_getElem (by rw [HL.out]; omega)]; rfl
    · rw [if_neg e]; unfold hb; rw [if_neg e, List.getD_eq_getElem?_getD, List.getElem?_eq_getElem (by rw [HL.out]; omega)]; rfl
  have d0 : W2.cell? ⟨g, 0, none⟩ = some (.int .u8 (bn (D.getD 0 0))) := (Row.cell hR2 0).trans (hcell 0 (by omega))
  obtain ⟨b0, b1⟩ := bn_bd (D.getD 0 0)
  have h1 : ((hnum D 1 : Nat) : Int) = bn (D.getD 0 0) % 128 := by
    show ((0 * 256 + hb D 0 : Nat) : Int) = _
    unfold hb bn; rw [if_pos rfl]; omega
  have HC := Lib.hid hcell
  have H2 := Lib.hid hR2
  have HB := Lib.hid hB2
  have H1 := Lib.hid h1
  generalize bn (D.getD 0 0) = x at *
  clear hR2 hB2 hcell hb1 HT hst h1
  go_wp2_with fail
  clear d0
  go_loopg [6, 7] 7 (fun gk n i wr => W2 = wr ∧ ∃ k : Nat, i = .int .i64 k ∧ 1 ≤ k ∧ k + gk = 8 ∧ n = .int .i64 (hnum D k : Int))
  case atStart => exact ⟨rfl, 1, rfl, by omega, rfl, by rw [← H1.out]⟩
  case round =>
    obtain ⟨rfl, k, rfl, hk1, hk, rfl⟩ := hrel
    by_cases hlt : k < 8
    · have dk := (Row.cell H2.out k).trans (HC.out k hlt)
      rw [if_neg (by omega)] at dk
      obtain ⟨q0, q1⟩ := hnum_bd D (k := k) (by omega)
      have q1 := q1 hlt
      have q2 := hb_lt D k
      have hn : (hnum D (k + 1) : Int) = (hnum D k : Int) * 256 + (hb D k : Int) := by show ((hnum D k * 256 + hb D k : Nat) : Int) = _; omega
      have HN := Lib.hid hn
      clear hn q0
      have hi : (0 : Int) ≤ (hnum D k : Int) := by omega
      have hj : (hnum D k : Int) < 36028797018963968 := by omega
      have hj2 : (0 : Int) ≤ (hb D k : Int) := by omega
      have hj3 : (hb D k : Int) < 256 := by omega
      generalize (hnum D k : Int) = n at *
      generalize (hb D k : Int) = c at *
      go_wp2_with fail
      go_roundg (gk - 1)
      case measure => omega
      case rel => exact ⟨rfl, k + 1, by go_num, by omega, by omega, by rw [HN.out]⟩
    · obtain rfl : k = 8 := by omega
      obtain ⟨q0, _⟩ := hnum_bd D (k := 8) (by omega)
      have hi : (0 : Int) ≤ (hnum D 8 : Int) := by omega
      go_wp2_with fail
      go_ret
      exact ⟨rfl, HB.out⟩
theorem refelement_any (n : Int) (w : World) :
    Calls Tryd.prog 12 #[.int .i64 n] w fun e w' => e = .returned (.tuple #[.int .i64 (elC n), .int .i64 (elE n)]) ∧ w = w' := by
  by_cases h : 1 ≤ n ∧ n ≤ 1073741789
  · obtain ⟨h1, h2⟩ := h
    have e2 : elE n = 0 := by unfold elE; rw [if_pos ⟨h1, h2⟩]
    cases hv : vld n with
    | true =>
      have e1 : elC n = n := by unfold elC; rw [if_pos ⟨h1, h2⟩, hv]; rfl
      have E1 := Lib.hid e1
      have E2 := Lib.hid e2
      clear e1 e2
      go_enter Tryd.func12, Tryd.ntmps12
      go_wp2_with (go_at_call 27; refine (refvalid_any _ _).mono ?_; rintro e w' ⟨rfl, rfl⟩)
      go_ret2
      exact ⟨by rw [E1.out, E2.out] <;> rfl, rfl⟩
    | false =>
      have e1 : elC n = 2147483579 - n := by unfold elC; rw [if_pos ⟨h1, h2⟩, hv]; rfl
      have E1 := Lib.hid e1
      have E2 := Lib.hid e2
      clear e1 e2
      go_enter Tryd.func12, Tryd.ntmps12
      go_wp2_with (go_at_call 27; refine (refvalid_any _ _).mono ?_; rintro e w' ⟨rfl, rfl⟩)
      go_ret2
      exact ⟨by rw [E1.out, E2.out] <;> rfl, rfl⟩
  · have E1 := Lib.hid (show elC n = 0 by unfold elC; rw [if_neg h])
    have E2 := Lib.hid (show elE n = 1 by unfold elE; rw [if_neg h])
    by_cases h1 : n < 1
    · clear h
      go_enter Tryd.func12, Tryd.ntmps12
      go_wp2_with fail
      go_ret2
      exact ⟨by rw [E1.out, E2.out] <;> rfl, rfl⟩
    · have h2 : 1073741789 < n := by omega
      clear h
      go_enter Tryd.func12, Tryd.ntmps12
      go_wp2_with fail
      go_ret2
      exact ⟨by rw [E1.out, E2.out] <;> rfl, rfl⟩
theorem refnumber_any (n : Int) (w : World) :
    Calls Tryd.prog 14 #[.int .i64 n] w fun e w' => e = .returned (.tuple #[.int .i64 (numC n), .int .i64 (numE n)]) ∧ w = w' := by
  cases hv : vld n with
  | true =>
    have l1 := vld_lo hv
    have l2 := vld_hi hv
    have E2 := Lib.hid (show numE n = 0 by unfold numE; rw [hv]; rfl)
    by_cases h : n ≤ 1073741789
    · have E1 := Lib.hid (show numC n = n by unfold numC; rw [hv, if_pos rfl, if_pos h])
      go_enter Tryd.func14, Tryd.ntmps14
      go_wp2_with (go_at_call 27; refine (refvalid_any _ _).mono ?_; rintro e w' ⟨rfl, rfl⟩)
      go_ret2
      exact ⟨by rw [E1.out, E2.out] <;> rfl, rfl⟩
    · have E1 := Lib.hid (show numC n = 2147483579 - n by unfold numC; rw [hv, if_pos rfl, if_neg h])
      go_enter Tryd.func14, Tryd.ntmps14
      go_wp2_with (go_at_call 27; refine (refvalid_any _ _).mono ?_; rintro e w' ⟨rfl, rfl⟩)
      go_ret2
      exact ⟨by rw [E1.out, E2.out] <;> rfl, rfl⟩
  | false =>
    have E1 := Lib.hid (show numC n = 0 by unfold numC; rw [hv]; rfl)
    have E2 := Lib.hid (show numE n = 90 by unfold numE; rw [hv]; rfl)
    go_enter Tryd.func14, Tryd.ntmps14
    go_wp2_with (go_at_call 27; refine (refvalid_any _ _).mono ?_; rintro e w' ⟨rfl, rfl⟩)
    go_ret2
    exact ⟨by rw [E1.out, E2.out] <;> rfl, rfl⟩
end Go.Proofs.YtaheibbbdglcmaaDoor
