import Derived.Test.YtlbnbginippjfaaRef47P
import Derived.Test.YtlbnbginippjfaaRest
import Derived.Test.YtlbnbginippjfaaDeal
import Derived.Test.YtlbnbginippjfaaRecP
import Derived.Deep.QuietTactic
import Derived.BigQuiet
namespace Go.Proofs.Ytlbnbginippjfaa
open Go.RowKit Fk

set_option maxHeartbeats 1000000 in
theorem sameints_any (l : List Int) (v v2 : Value) (w : World) (B0 : Nat) (hB : B0 ≤ w.heap.size) (h : SlI w B0 v l) (h2 : SlI w B0 v2 l) :
    Calls Try.prog 57 #[v, v2] w fun e w' => e = .returned (.bool true) ∧ Below w.heap.size w w' := by
  have HS := Lib.hid h
  have HS2 := Lib.hid h2
  obtain ⟨hlen, A, c, rfl, _⟩ := h
  obtain ⟨_, A2, c2, rfl, _⟩ := h2
  go_enter Try.func57, Try.ntmps57
  go_wp2
  go_loopg [5] l.length (fun g i wr => Below w.heap.size w wr ∧ ∃ k : Nat, i = .int .i64 k ∧ k + g = l.length)
  case atStart => exact ⟨Below.refl _ _, 0, rfl, by omega⟩
  case round =>
    obtain ⟨hBr, k, rfl, hk⟩ := hrel
    by_cases hlt : k < l.length
    · obtain ⟨_, A', c', hv, hE⟩ := HS.out.below (hBr.mono hB)
      obtain ⟨b, off, rfl, hb, hE⟩ := hE (by omega)
      cases hv
      obtain ⟨_, A3, c3, hv, hE2⟩ := HS2.out.below (hBr.mono hB)
      obtain ⟨b2, off2, rfl, hb2, hE2⟩ := hE2 (by omega)
      cases hv
      have d1 := hE.int hlt
      have d2 := hE2.int hlt
      generalize l.getD k default = m at d1 d2
      have s0 : (m != m) = false := by simp
      have s2 : (0 : Int) ≤ (k : Int) := by omega
      have s3 : ((k : Int)).toNat = k := by omega
      have s4 : (k : Int) < l.length := by omega
      clear hE hE2
      go_wp2
      go_quiet (fail)
      clear s2 s3 s4
      go_wp2
      go_roundg (gk - 1)
      case measure => omega
      case rel => exact ⟨by first | exact hBr | exact below_drewN hBr _, k + 1, by go_num, by omega⟩
    · go_wp2
      go_ret
      exact ⟨rfl, hBr⟩

set_option maxHeartbeats 1000000 in
theorem same_any (l : List Sh) (v v2 : Value) (w : World) (B0 : Nat) (hB : B0 ≤ w.heap.size) (h : SlSh w B0 v l) (h2 : SlSh w B0 v2 l) :
    Calls Try.prog 58 #[v, v2] w fun e w' => e = .returned (.bool true) ∧ Below w.heap.size w w' := by
  have HS := Lib.hid h
  have HS2 := Lib.hid h2
  obtain ⟨hlen, A, c, rfl, _⟩ := h
  obtain ⟨_, A2, c2, rfl, _⟩ := h2
  go_enter Try.func58, Try.ntmps58
  go_wp2
  go_loopg [5] l.length (fun g i wr => Below w.heap.size w wr ∧ ∃ k : Nat, i = .int .i64 k ∧ k + g = l.length)
  case atStart => exact ⟨Below.refl _ _, 0, rfl, by omega⟩
  case round =>
    obtain ⟨hBr, k, rfl, hk⟩ := hrel
    by_cases hlt : k < l.length
    · obtain ⟨_, A', c', hv, hE⟩ := HS.out.below (hBr.mono hB)
      obtain ⟨b, off, rfl, hb, hE⟩ := hE (by omega)
      cases hv
      obtain ⟨_, A3, c3, hv, hE2⟩ := HS2.out.below (hBr.mono hB)
      obtain ⟨b2, off2, rfl, hb2, hE2⟩ := hE2 (by omega)
      cases hv
      have d1 := hE k hlt 0 (by omega)
      have d2 := hE k hlt 1 (by omega)
      have f1 := hE2 k hlt 0 (by omega)
      have f2 := hE2 k hlt 1 (by omega)
      generalize l.getD k default = m at d1 d2 f1 f2
      simp only [encSh, List.getD_cons_zero, List.getD_cons_succ, Nat.add_zero] at d1 d2 f1 f2
      have s0 : (m.a != m.a) = false := by simp
      have s1 : (m.v != m.v) = false := by simp
      have s2 : (0 : Int) ≤ (k : Int) := by omega
      have s3 : ((k : Int)).toNat = k := by omega
      have s4 : (k : Int) < l.length := by omega
      clear hE hE2
      go_wp2
      go_quiet (fail)
      clear s2 s3 s4
      go_wp2
      go_roundg (gk - 1)
      case measure => omega
      case rel => exact ⟨by first | exact hBr | exact below_drewN hBr _, k + 1, by go_num, by omega⟩
    · go_wp2
      go_ret
      exact ⟨rfl, hBr⟩
end Go.Proofs.Ytlbnbginippjfaa
