import Derived.Test.YtaheibbbdglcmaaDoorDg6
import Derived.Test.YtaheibbbdglcmaaDoorSane09
namespace Go.Proofs.YtaheibbbdglcmaaDoor
open Go.RowKit Fk Sha
/-! GroupHash: a hash is what remains of the first 8 bytes. -/
theorem rest_step (d : List B) (k : Nat) : ((hnum d k % 1073741789 : Nat) * 256 + hb d k) % 1073741789 = hnum d (k + 1) % 1073741789 := by
  show _ = (hnum d k * 256 + hb d k) % 1073741789
  omega
theorem b_true {a : Bool} (h : a = true) : Ending.returned (.bool a) = .returned (.bool true) := by rw [h]
set_option maxRecDepth 100000 in
set_option maxHeartbeats 2000000 in
theorem groupHash_big (s : ByteArray) (n : Nat) (A : Option Addr) (c : Nat) (w : World) (h : 2000 < n ∨ 200 < s.size) (h1 : n ≤ 9223372036854775807) (h2 : s.size ≤ maxLen) :
    Calls Tryd.prog 4 #[.string s, .slice A n c] w fun e w' => e = .returned (.bool true) ∧ Below w.heap.size w w' := by
  unfold maxLen at h2
  by_cases h3 : 2000 < n
  · clear h
    go_enter Tryd.func4, Tryd.ntmps4
    go_wp2_with (go_at_call 10; (with_reducible refine (sane09 _).mono ?_); rintro e w1 ⟨rfl, hb⟩)
    go_ret
    exact ⟨rfl, hb⟩
  · have h4 : 200 < s.size := by omega
    clear h
    go_enter Tryd.func4, Tryd.ntmps4
    go_wp2_with (go_at_call 10; (with_reducible refine (sane09 _).mono ?_); rintro e w1 ⟨rfl, hb⟩)
    go_ret
    exact ⟨rfl, hb⟩
set_option maxRecDepth 100000 in
set_option maxHeartbeats 4000000 in
theorem groupHash_small (s : ByteArray) (l : List B) (v : Value) (w : World) (h : SlB w w.heap.size v l) (hc : capB v) (hl : l.length ≤ 2000) (hs : s.size ≤ 200) (hT : Tab w) (hz : 1 < w.heap.size ∧ 0 < w.heap.size) :
    Calls Tryd.prog 4 #[.string s, v] w fun e w' => e = .returned (.bool true) ∧ Below w.heap.size w w' := by
  obtain ⟨hz1, hz2⟩ := hz
  have K1 := fun (W : World) (hB : Below w.heap.size w W) => hash_any s l v W ((h.below hB).mono hB.size) hc (by omega) (by omega) (hT.keep ⟨hz1, hz2⟩ hB.block) ⟨by have := hB.size; omega, by have := hB.size; omega⟩
  have K2 := fun (W : World) (hB : Below w.heap.size w W) => tagged_any s l v W ((h.below hB).mono hB.size) hc (by omega) (by omega) (hT.keep ⟨hz1, hz2⟩ hB.block) ⟨by have := hB.size; omega, by have := hB.size; omega⟩
  have hlen := tagged_length (sb s) l
  obtain ⟨D, hD⟩ : ∃ D, tagged (sb s) l = D := ⟨_, rfl⟩
  rw [hD] at hlen K1 K2
  have hst := fun W => store32 D hlen W
  have H1 := Lib.hid K1
  have H2 := Lib.hid K2
  have HL := Lib.hid hlen
  obtain ⟨A, n, c, rfl, _⟩ := hc
  obtain rfl : n = l.length := by obtain ⟨_, _, _, hv, _⟩ := h; injection hv
  clear K1 K2 hlen hD h hT
  go_enter Tryd.func4, Tryd.ntmps4
  go_upto_region 7 with (first
    | (go_at_call 10; (with_reducible refine (sane09 _).mono ?_); rintro e w1 ⟨rfl, hB⟩)
    | (go_at_call 15; (with_reducible refine (H1.out _ hB).mono ?_); rintro e w2 ⟨rfl, hb⟩; replace hB := hB.trans (hb.mono hB.size); clear hb)
    | (go_at_call 17; (with_reducible refine (H2.out _ hB).mono ?_); rintro e w3 ⟨rfl, hb⟩; replace hB := hB.trans (hb.mono hB.size); clear hb))
  have hR : Row (w3.alloc (.cells (D.map bv).toArray 30)) w3.heap.size 30 (D.map bv) := Row.new w3 _ _
  have hB2 : Below w.heap.size w (w3.alloc (.cells (D.map bv).toArray 30)) := hB.alloc hB.size _
  have hcell : ∀ k, k < 8 → (D.map bv)[k]? = some (.int .u8 (if k = 0 then bn (D.getD 0 0) else (hb D k : Int))) := by
    intro k hk
    rw [List.getElem?_map, List.getElem?_eq_getElem (by rw [HL.out]; omega)]
    by_cases e : k = 0
    · subst e; rw [if_pos rfl, List.getD_eq_getElem?_getD, List.getElem?_eq_getElem (by rw [HL.out]; omega)]; rfl
    · rw [if_neg e]; unfold hb; rw [if_neg e, List.getD_eq_getElem?_getD, List.getElem?_eq_getElem (by rw [HL.out]; omega)]; rfl
  have h0 : (hb D 0 : Int) = bn (D.getD 0 0) % 128 := by unfold hb bn; rw [if_pos rfl]; rfl
  obtain ⟨b0, b1⟩ := bn_bd (D.getD 0 0)
  generalize bn (D.getD 0 0) = x0 at *
  generalize w3.alloc (.cells (D.map bv).toArray 30) = W at *
  generalize w3.heap.size = g at *
  have HC := Lib.hid hcell
  have HR := Lib.hid hR
  have HB := Lib.hid hB2
  have H0 := Lib.hid h0
  clear hcell hR hB2 hB hst H1 H2 h0
  go_wp2_with fail
  go_loopg [7, 26] 8 (fun gk n i wr => W = wr ∧ ∃ k : Nat, i = .int .i64 k ∧ k + gk = 8 ∧ n = .int .i64 ((hnum D k % 1073741789 : Nat) : Int))
  case atStart => exact ⟨rfl, 0, rfl, rfl, rfl⟩
  case round =>
    obtain ⟨rfl, k, rfl, hk, rfl⟩ := hrel
    by_cases hlt : k < 8
    · have hst := rest_step D k
      have q2 := hb_lt D k
      have q3 : hnum D k % 1073741789 < 1073741789 := Nat.mod_lt _ (by omega)
      have q4 : (((hnum D k % 1073741789 : Nat) : Int) * 256 + (hb D k : Int)) % 1073741789 = ((hnum D (k + 1) % 1073741789 : Nat) : Int) := by omega
      have s1 : (0 : Int) ≤ ((hnum D k % 1073741789 : Nat) : Int) := by omega
      have s2 : ((hnum D k % 1073741789 : Nat) : Int) < 1073741789 := by omega
      have s3 : (0 : Int) ≤ (hb D k : Int) := by omega
      have s4 : (hb D k : Int) < 256 := by omega
      by_cases e : k = 0
      · subst e
        have dk := (Row.cell HR.out 0).trans (HC.out 0 hlt)
        simp only [if_true] at dk
        rw [H0.out] at q4
        generalize ((hnum D 0 % 1073741789 : Nat) : Int) = n at *
        have HQ := Lib.hid q4
        clear q4 q2 q3 hst s3 s4
        go_wp2_with fail
        go_roundg (gk - 1)
        case measure => omega
        case rel => exact ⟨rfl, 1, by go_num, by omega, by rw [← HQ.out]⟩
      · have dk := (Row.cell HR.out k).trans (HC.out k hlt)
        rw [if_neg e] at dk
        have ek : ((k : Int) == 0) = false := by simp; omega
        generalize ((hnum D k % 1073741789 : Nat) : Int) = n at *
        generalize (hb D k : Int) = c at *
        have HQ := Lib.hid q4
        clear q4 q2 q3 hst
        go_wp2_with fail
        go_roundg (gk - 1)
        case measure => omega
        case rel => exact ⟨rfl, k + 1, by go_num, by omega, by rw [← HQ.out]⟩
    · obtain rfl : k = 8 := by omega
      unfold hashN
      have s1 : (0 : Int) ≤ ((hnum D 8 % 1073741789 : Nat) : Int) := by omega
      have s2 : ((hnum D 8 % 1073741789 : Nat) : Int) < 1073741789 := by have := Nat.mod_lt (hnum D 8) (show 0 < 1073741789 by omega); omega
      generalize ((hnum D 8 % 1073741789 : Nat) : Int) = n at *
      go_wp2_with fail
      go_ret
      exact ⟨b_true (by simp), HB.out⟩
theorem groupHash_walk (s : ByteArray) (l : List B) (v : Value) (w : World) (hT : Tab w) (hz : 1 < w.heap.size ∧ 0 < w.heap.size) (h : SlB w w.heap.size v l) (hs : s.size ≤ maxLen) (hc : capB v) :
    Calls Tryd.prog 4 #[.string s, v] w fun e w' => e = .returned (.bool true) ∧ Below w.heap.size w w' := by
  by_cases hb : 2000 < l.length ∨ 200 < s.size
  · obtain ⟨hl, A, c, rfl, _⟩ := h
    exact groupHash_big s l.length A c w hb hl hs
  · exact groupHash_small s l v w h hc (by omega) (by omega) hT hz
end Go.Proofs.YtaheibbbdglcmaaDoor
