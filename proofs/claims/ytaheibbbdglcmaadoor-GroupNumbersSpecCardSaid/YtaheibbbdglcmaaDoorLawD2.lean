import Derived.Test.YtaheibbbdglcmaaDoorRd7
import Derived.Test.YtaheibbbdglcmaaDoorDg6
import Derived.Test.YtaheibbbdglcmaaDoorSane09
namespace Go.Proofs.YtaheibbbdglcmaaDoor
open Go.RowKit Fk Sha
open Go.Claim
/-! GroupNumbersSpec: Element, Number and Hash are the reference's. -/
theorem b_true2 {a : Bool} (h : a = true) : Ending.returned (.bool a) = .returned (.bool true) := by rw [h]
set_option maxRecDepth 100000 in
set_option maxHeartbeats 2000000 in
theorem groupNumbers_big (x : Int) (s : ByteArray) (n : Nat) (A : Option Addr) (c : Nat) (w : World) (h : 2000 < n ∨ 200 < s.size) (h1 : n ≤ 9223372036854775807) (h2 : s.size ≤ maxLen) :
    Calls Tryd.prog 3 #[.int .i64 x, .string s, .slice A n c] w fun e w' => e = .returned (.bool true) ∧ Below w.heap.size w w' := by
  unfold maxLen at h2
  by_cases h3 : 2000 < n
  · clear h
    go_enter Tryd.func3, Tryd.ntmps3
    go_wp2_with (go_at_call 10; (with_reducible refine (sane09 _).mono ?_); rintro e w1 ⟨rfl, hb⟩)
    go_ret
    exact ⟨rfl, hb⟩
  · have h4 : 200 < s.size := by omega
    clear h
    go_enter Tryd.func3, Tryd.ntmps3
    go_wp2_with (go_at_call 10; (with_reducible refine (sane09 _).mono ?_); rintro e w1 ⟨rfl, hb⟩)
    go_ret
    exact ⟨rfl, hb⟩
set_option maxRecDepth 100000 in
set_option maxHeartbeats 4000000 in
theorem groupNumbers_small (x : Int) (s : ByteArray) (l : List B) (v : Value) (w : World) (h : SlB w w.heap.size v l) (hc : capB v) (hl : l.length ≤ 2000) (hs : s.size ≤ 200) (hT : Tab w) (hz : 1 < w.heap.size ∧ 0 < w.heap.size) :
    Calls Tryd.prog 3 #[.int .i64 x, .string s, v] w fun e w' => e = .returned (.bool true) ∧ Below w.heap.size w w' := by
  obtain ⟨hz1, hz2⟩ := hz
  have K1 := fun (W : World) (hB : Below w.heap.size w W) => hash_any s l v W ((h.below hB).mono hB.size) hc (by omega) (by omega) (hT.keep ⟨hz1, hz2⟩ hB.block) ⟨by have := hB.size; omega, by have := hB.size; omega⟩
  have K2 := fun (W : World) (hB : Below w.heap.size w W) => refhash_any s l v W ((h.below hB).mono hB.size) hc (by omega) (by omega)
  have K3 := element_any x
  have K4 := refelement_any x
  have K5 := number_any x
  have K6 := refnumber_any x
  generalize hashN (tagged (sb s) l) = g at *
  generalize elC x = x1 at *
  generalize elE x = x2 at *
  generalize numC x = x3 at *
  generalize numE x = x4 at *
  have H1 := Lib.hid K1
  have H2 := Lib.hid K2
  have H3 := Lib.hid K3
  have H4 := Lib.hid K4
  have H5 := Lib.hid K5
  have H6 := Lib.hid K6
  obtain ⟨A, n, c, rfl, _⟩ := hc
  obtain rfl : n = l.length := by obtain ⟨_, _, _, hv, _⟩ := h; injection hv
  clear K1 K2 K3 K4 K5 K6 h hT
  go_enter Tryd.func3, Tryd.ntmps3
  go_wp2_with (first
    | (go_at_call 10; (with_reducible refine (sane09 _).mono ?_); rintro e w1 ⟨rfl, hB⟩)
    | (go_at_call 11; (with_reducible refine (H3.out _).mono ?_); rintro e w' ⟨rfl, rfl⟩)
    | (go_at_call 12; (with_reducible refine (H4.out _).mono ?_); rintro e w' ⟨rfl, rfl⟩)
    | (go_at_call 13; (with_reducible refine (H5.out _).mono ?_); rintro e w' ⟨rfl, rfl⟩)
    | (go_at_call 14; (with_reducible refine (H6.out _).mono ?_); rintro e w' ⟨rfl, rfl⟩)
    | (go_at_call 15; (with_reducible refine (H1.out _ hB).mono ?_); rintro e w2 ⟨rfl, hb⟩; replace hB := hB.trans (hb.mono hB.size); clear hb)
    | (go_at_call 16; (with_reducible refine (H2.out _ hB).mono ?_); rintro e w3 ⟨rfl, hb⟩; replace hB := hB.trans (hb.mono hB.size); clear hb))
  go_ret
  exact ⟨b_true2 (by simp), hB⟩
theorem groupNumbersSpec_walk (x : Int) (s : ByteArray) (l : List B) (v : Value) (w : World) (hT : Tab w) (hz : 1 < w.heap.size ∧ 0 < w.heap.size) (h : SlB w w.heap.size v l) (_ : (Lit.int .i64 x).wf = true) (hs : s.size ≤ maxLen) (hc : capB v) :
    Calls Tryd.prog 3 #[.int .i64 x, .string s, v] w fun e w' => e = .returned (.bool true) ∧ Below w.heap.size w w' := by
  by_cases hb : 2000 < l.length ∨ 200 < s.size
  · obtain ⟨hl, A, c, rfl, _⟩ := h
    exact groupNumbers_big x s l.length A c w hb hl hs
  · exact groupNumbers_small x s l v w h hc (by omega) (by omega) hT hz
end Go.Proofs.YtaheibbbdglcmaaDoor
