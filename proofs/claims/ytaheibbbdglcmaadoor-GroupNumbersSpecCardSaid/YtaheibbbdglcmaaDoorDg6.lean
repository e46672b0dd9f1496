import Derived.Test.YtaheibbbdglcmaaDoorDg5
import Derived.IntWalk
namespace Go.Proofs.YtaheibbbdglcmaaDoor
open Go.RowKit Fk Sha
/-! A number from a hash. -/
/-- the k-th byte, the first one without its highest bit -/
def hb (d : List B) (k : Nat) : Nat := if k = 0 then (d.getD 0 0).toNat % 128 else (d.getD k 0).toNat
def hnum (d : List B) : Nat → Nat
  | 0 => 0
  | k + 1 => hnum d k * 256 + hb d k
def hashN (d : List B) : Int := ((hnum d 8 % 1073741789 : Nat) : Int)
theorem hb_lt (d : List B) (k : Nat) : hb d k < 256 := by
  unfold hb; split
  · omega
  · exact (d.getD k 0).isLt
theorem hnum_lt (d : List B) : ∀ k, hnum d (k + 1) < 128 * 256 ^ k
  | 0 => by simp [hnum, hb]; omega
  | k + 1 => by
    have := hnum_lt d k
    have h2 := hb_lt d (k + 1)
    show hnum d (k + 1) * 256 + hb d (k + 1) < _
    rw [Nat.pow_succ]
    omega
theorem hnum_bd (d : List B) {k : Nat} (h : k ≤ 8) : hnum d k < 9223372036854775808 ∧ (k < 8 → hnum d k < 36028797018963968) := by
  cases k with
  | zero => exact ⟨by simp [hnum], fun _ => by simp [hnum]⟩
  | succ k =>
    have h1 := hnum_lt d k
    rcases (show k = 0 ∨ k = 1 ∨ k = 2 ∨ k = 3 ∨ k = 4 ∨ k = 5 ∨ k = 6 ∨ k = 7 by omega) with rfl | rfl | rfl | rfl | rfl | rfl | rfl | rfl <;> (simp only [Nat.reducePow, Nat.reduceMul] at h1; exact ⟨by omega, fun _ => by omega⟩)
theorem wraps_i64 (n : Int) (h₀ : 0 ≤ n) (h₁ : n < 2 ^ 63) : IntKind.i64.wrap n = n := by
  rw [IntKind.wrap_i64]; have : (2 : Int) ^ 63 = 9223372036854775808 := by decide
  omega
theorem or_byte (n c : Int) (h0 : 0 ≤ n) (h1 : n < 36028797018963968) (h2 : 0 ≤ c) (h3 : c < 256) : bits .or .i64 (n * 256) c = n * 256 + c := by
  have e63 : (2 : Int) ^ 63 = 9223372036854775808 := by decide
  have e8 : (2 : Int) ^ 8 = 256 := by decide
  exact bits_join .i64 63 (by decide) wraps_i64 8 (n * 256) c (by omega) (by rw [e8]; omega) (by rw [e63]; omega) h2 (by rw [e8]; exact h3) (by rw [e63]; omega)
theorem and_127 (x : Int) (h0 : 0 ≤ x) (h1 : x < 256) : bits .and .u8 x 127 = x % 128 := bits_mask .u8 8 (by decide) wraps_u8 7 (by decide) x h0 h1
set_option maxRecDepth 100000 in
set_option maxHeartbeats 2000000 in
theorem hash_any (s : ByteArray) (l : List B) (v : Value) (w : World) (h : SlB w w.heap.size v l) (hc : capB v) (hl : l.length ≤ 1099511627000) (hs : s.size ≤ 1099511627000) (hT : Tab w) (hz : 1 < w.heap.size ∧ 0 < w.heap.size) :
    Calls Tryd.prog 15 #[.string s, v] w fun e w' => e = .returned (.int .i64 (hashN (tagged (sb s) l))) ∧ Below w.heap.size w w' := by
  have ht := tagged_any s l v w h hc hl hs hT hz
  have hlen := tagged_length (sb s) l
  obtain ⟨D, hD⟩ : ∃ D, tagged (sb s) l = D := ⟨_, rfl⟩
  rw [hD] at ht hlen ⊢
  have hst := fun W => store32 D hlen W
  have HT := Lib.hid ht
  have HL := Lib.hid hlen
  clear ht hD h hc hT hlen
  go_enter Tryd.func15, Tryd.ntmps15
  go_upto_region 2 with (go_at_call 17; (with_reducible refine HT.out.mono ?_); rintro e W1 ⟨rfl, hb1⟩)
  have hR2 : Row (W1.alloc (.cells (D.map bv).toArray 30)) W1.heap.size 30 (D.map bv) := Row.new W1 _ _
  have hB2 : Below w.heap.size w (W1.alloc (.cells (D.map bv).toArray 30)) := hb1.alloc hb1.size _
  have hzg : w.heap.size ≤ W1.heap.size := hb1.size
  generalize W1.alloc (.cells (D.map bv).toArray 30) = W2 at *
  generalize W1.heap.size = g at *
  have d0 : W2.cell? ⟨g, 0, none⟩ = some (.int .u8 (bn (D.getD 0 0))) := (Row.cell hR2 0).trans (by rw [List.getElem?_map, List.getD_eq_getElem?_getD, List.getElem?_eq_getElem (by rw [HL.out]; omega)]; rfl)
  have f0 := Row.frozen hR2 0
  obtain ⟨b0, b1⟩ := bn_bd (D.getD 0 0)
  have hand := and_127 _ b0 b1
  have hR3 := Row.store hR2 0 (.int .u8 (bn (D.getD 0 0) % 128))
  have hB3 := hB2.setCell (p := ⟨g, 0, none⟩) hzg (.int .u8 (bn (D.getD 0 0) % 128))
  have hcell : ∀ k, k < 8 → ((D.map bv).set 0 (.int .u8 (bn (D.getD 0 0) % 128)))[k]? = some (.int .u8 (hb D k : Int)) := by
    intro k hk
    rw [List.getElem?_set]
    by_cases e : 0 = k
    · subst e
      rw [if_pos rfl, if_pos (by rw [List.length_map, HL.out]; omega)]
      unfold hb bn; rw [if_pos rfl]; rfl
    · rw [if_neg e, List.getElem?_map, List.getElem?_eq_getElem (by rw [HL.out]; omega)]
      unfold hb; rw [if_neg (Ne.symm e), List.getD_eq_getElem?_getD, List.getElem?_eq_getElem (by rw [HL.out]; omega)]; rfl
  have HC := Lib.hid hcell
  have H3 := Lib.hid hR3
  have HB := Lib.hid hB3
  generalize bn (D.getD 0 0) = x at *
  clear hR2 hB2 hcell hR3 hB3 hb1 HT hst
  go_wp2_with fail
  clear d0 f0 b0 b1 hand
  go_loopg [4, 14] 8 (fun gk n i wr => W2.setCell ⟨g, 0, none⟩ (.int .u8 (x % 128)) = wr ∧ ∃ k : Nat, i = .int .i64 k ∧ k + gk = 8 ∧ n = .int .i64 (hnum D k : Int))
  case atStart => exact ⟨rfl, 0, rfl, rfl, rfl⟩
  case round =>
    obtain ⟨rfl, k, rfl, hk, rfl⟩ := hrel
    by_cases hlt : k < 8
    · have dk := (Row.cell H3.out k).trans (HC.out k hlt)
      obtain ⟨q0, q1⟩ := hnum_bd D (k := k) (by omega)
      have q1 := q1 hlt
      have q2 := hb_lt D k
      have ho := or_byte (hnum D k) (hb D k) (by omega) (by omega) (by omega) (by omega)
      have hn : (hnum D (k + 1) : Int) = (hnum D k : Int) * 256 + (hb D k : Int) := by show ((hnum D k * 256 + hb D k : Nat) : Int) = _; omega
      have HN := Lib.hid hn
      clear hn q0
      have hi : (0 : Int) ≤ (hnum D k : Int) := by omega
      have hj : (hnum D k : Int) < 36028797018963968 := by omega
      have hj2 : (0 : Int) ≤ (hb D k : Int) := by omega
      have hj3 : (hb D k : Int) < 256 := by omega
      generalize (hnum D k : Int) = n at *
      generalize (hb D k : Int) = c at *
      go_wp2_with fail
      go_roundg (gk - 1)
      case measure => omega
      case rel => exact ⟨rfl, k + 1, by go_num, by omega, by rw [HN.out]⟩
    · obtain rfl : k = 8 := by omega
      obtain ⟨q0, _⟩ := hnum_bd D (k := 8) (by omega)
      have hi : (0 : Int) ≤ (hnum D 8 : Int) := by omega
      go_wp2_with fail
      go_ret
      exact ⟨rfl, HB.out⟩
end Go.Proofs.YtaheibbbdglcmaaDoor
