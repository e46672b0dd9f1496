import Derived.Test.YtlbnbginippjfaaEl2
import Derived.Test.YtlbnbginippjfaaEl12
import Derived.Test.YtlbnbginippjfaaSl
import Derived.Deep.LoopGhost
namespace Go.Proofs.Ytlbnbginippjfaa
open Go.RowKit Fk
/-! Few secrets, all right. -/
def rightB (l : List Int) : Bool := l.all secB && decide (l.length ≤ 5)
theorem all_of_get {l : List Int} (h : ∀ i, i < l.length → secB (l.getD i default) = true) : l.all secB = true := by
  rw [List.all_eq_true]
  intro x hx
  obtain ⟨i, hi, rfl⟩ := List.getElem_of_mem hx
  have := h i hi
  rwa [List.getD_eq_getElem?_getD, List.getElem?_eq_getElem hi] at this
theorem not_all {l : List Int} {i : Nat} (hi : i < l.length) (h : secB (l.getD i default) = false) : rightB l = false := by
  unfold rightB
  have : l.all secB = false := by
    rw [List.all_eq_false]
    refine ⟨l.getD i default, ?_, by rw [h]; decide⟩
    rw [List.getD_eq_getElem?_getD, List.getElem?_eq_getElem hi]
    exact List.getElem_mem _
  rw [this]; rfl
set_option maxHeartbeats 1000000 in
theorem right_any (l : List Int) (v : Value) (w : World) (B0 : Nat) (h : SlI w B0 v l) :
    Calls Try.prog 20 #[v] w fun e w' => e = .returned (.bool (rightB l)) ∧ w = w' := by
  have HS := Lib.hid h
  obtain ⟨hlen, A, c, rfl, _⟩ := h
  go_enter Try.func20, Try.ntmps20
  go_wp2_with fail
  go_loopg [7] l.length (fun g i wr => w = wr ∧ ∃ k : Nat, i = .int .i64 k ∧ k + g = l.length ∧ Hid (∀ i, i < k → secB (l.getD i default) = true))
  case atStart => exact ⟨rfl, 0, rfl, by omega, fun i hi => by omega⟩
  case round =>
    obtain ⟨rfl, k, rfl, hk, hall⟩ := hrel
    by_cases hlt : k < l.length
    · obtain ⟨_, A', c', hv, hE⟩ := HS.out
      obtain ⟨b, off, rfl, hb, hE⟩ := hE (by omega)
      cases hv
      have d1 := hE.int hlt
      have hbad := not_all hlt
      obtain ⟨x, hx⟩ : ∃ x, l.getD k default = x := ⟨_, rfl⟩
      rw [hx] at d1 hbad
      cases hs : secB x with
      | true =>
        have hnext : ∀ i, i < k + 1 → secB (l.getD i default) = true := fun i hi => by
          by_cases e : i = k
          · rw [e, hx]; exact hs
          · exact hall.out i (by omega)
        have HN := Lib.hid hnext
        have hm := fun w => rsecret_any x w
        rw [hs] at hm
        have HM := Lib.hid hm
        clear hnext hbad hx hE hs hm hall
        go_wp2_with (go_at_call 36; refine (HM.out _).mono ?_; rintro e w1 ⟨rfl, rfl⟩)
        go_roundg (gk - 1)
        case measure => omega
        case rel => exact ⟨rfl, k + 1, by go_num, by omega, HN.out⟩
      | false =>
        have hf := hbad hs
        have hm := fun w => rsecret_any x w
        rw [hs] at hm
        have HM := Lib.hid hm
        have HF := Lib.hid hf
        clear hbad hx hE hs hm hall hf
        go_wp2_with (go_at_call 36; refine (HM.out _).mono ?_; rintro e w1 ⟨rfl, rfl⟩)
        go_ret
        exact ⟨ret_bool HF.out.symm, rfl⟩
    · obtain rfl : k = l.length := by omega
      have hf : rightB l = decide (l.length ≤ 5) := by unfold rightB; rw [all_of_get hall.out]; simp
      have HF := Lib.hid hf
      clear hf hall
      go_wp2_with fail
      go_ret
      exact ⟨ret_bool (by rw [HF.out]; first | rfl | (simp <;> omega)), rfl⟩
end Go.Proofs.Ytlbnbginippjfaa
