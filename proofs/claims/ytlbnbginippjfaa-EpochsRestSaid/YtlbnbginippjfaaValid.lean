import Derived.Test.YtlbnbginippjfaaGrp
import Derived.Test.YtlbnbginippjfaaChecked
import Derived.WalkKit
import Derived.WalkSpells
import Derived.WalkLawsBesides
import Derived.Outline
import Derived.Deep.QuietTactic
import Derived.BigQuiet
import Derived.Lib.Hide
import Derived.Deep.LoopGhost
namespace Go.Proofs.Ytlbnbginippjfaa
open Go.RowKit Fk

/-- what holds at the head of each loop of group.Valid -/
def VInv (X x n : Nat) (sq : Bool) : Prop := n % 2 = 1 ∧ Nat.Coprime x n ∧ (sq == jac x n) = jac X 2147483579
theorem VInv.half {X x n : Nat} {sq sq' : Bool} (h : VInv X x n sq) (hx : x % 2 = 0) (hs : sq' = (sq ^^ (n % 8 == 3 || n % 8 == 5))) : VInv X (x / 2) n sq' := by
  obtain ⟨ho, hc, he⟩ := h
  have e : x = 2 * (x / 2) := by omega
  have hc2 : Nat.Coprime 2 n := by
    have : Nat.Coprime (2 * (x / 2)) n := e ▸ hc
    exact Nat.Coprime.coprime_mul_right this
  have hc3 : Nat.Coprime (x / 2) n := by
    have : Nat.Coprime (2 * (x / 2)) n := e ▸ hc
    exact Nat.Coprime.coprime_mul_left this
  refine ⟨ho, hc3, ?_⟩
  rw [← he, hs]
  conv => rhs; rw [e, jac_mul ho hc2 hc3, jac_two ho]
  cases sq <;> cases jac (x / 2) n <;> cases (n % 8 == 3 || n % 8 == 5) <;> rfl
theorem VInv.step {X x n : Nat} {sq sq' : Bool} (h : VInv X x n sq) (hx : x % 2 = 1) (h1 : 1 < x) (hs : sq' = (sq ^^ (x % 4 == 3 && n % 4 == 3))) : VInv X (n % x) x sq' ∧ 1 ≤ n % x := by
  obtain ⟨ho, hc, he⟩ := h
  have hc' : Nat.Coprime (n % x) x := by
    have : Nat.Coprime n x := hc.symm
    rwa [Nat.Coprime, ← Nat.gcd_rec, Nat.gcd_comm] at *
  refine ⟨⟨hx, hc', ?_⟩, ?_⟩
  · rw [← he, hs, jac_mod, recip hx ho hc]
    cases sq <;> cases jac n x <;> cases (x % 4 == 3 && n % 4 == 3) <;> rfl
  · rcases Nat.eq_zero_or_pos (n % x) with h0 | h0
    · rw [h0] at hc'
      have := Nat.coprime_zero_left x |>.1 hc'
      omega
    · exact h0
theorem VInv.one {X n : Nat} {sq : Bool} (h : VInv X 1 n sq) : sq = jac X 2147483579 := by
  obtain ⟨ho, _, he⟩ := h
  rw [jac_one ho] at he
  rw [← he]; cases sq <;> rfl
theorem VInv.start {x : Nat} (h1 : 1 ≤ x) (h2 : x < 2147483579) : VInv x x 2147483579 true :=
  ⟨by omega, isP_P.coprime (by rw [Nat.mod_eq_of_lt h2]; omega), by simp⟩
theorem ret_bool {a b : Bool} (h : a = b) : Ending.returned (.bool a) = .returned (.bool b) := by rw [h]

set_option maxHeartbeats 1000000 in
theorem valid_in (x : Int) (h1 : 1 ≤ x) (h2 : x < 2147483579) (w : World) :
    Calls Try.prog 32 #[.int .i64 x] w fun e w' => e = .returned (.bool (jac x.toNat 2147483579)) ∧ w = w' := by
  have a1 : decide (x < 1) = false := by simp; omega
  have a2 : decide (2147483579 ≤ x) = false := by simp; omega
  go_enter Try.func32, Try.ntmps32
  go_wp2
  go_step3
  go_wp2
  go_step3
  go_wp2
  clear a1 a2
  go_loopg [0, 3, 4] x.toNat (fun k p n s wr => w = wr ∧ ∃ (n' : Nat) (sq : Bool), p = .int .i64 k ∧ n = .int .i64 n' ∧ s = .bool sq ∧ 1 ≤ k ∧ k < 2147483579 ∧ n' < 2147483580 ∧ VInv x.toNat k n' sq)
  case atStart => exact ⟨rfl, 2147483579, true, by simp; omega, rfl, rfl, by omega, by omega, by omega, VInv.start (by omega) (by omega)⟩
  case round =>
    obtain ⟨rfl, n', sq, rfl, rfl, rfl, b1, b2, b3, hI⟩ := hrel
    obtain ⟨G, rfl⟩ : ∃ G : Nat, G = gk := ⟨_, rfl⟩
    by_cases hx : 1 < G
    · have hx' : decide (1 < (G : Int)) = true := by simp; omega
      go_wp2
      go_loopg [0, 4] G (fun k p s wr => w = wr ∧ ∃ (sq' : Bool), p = .int .i64 k ∧ s = .bool sq' ∧ 1 ≤ k ∧ k ≤ G ∧ VInv x.toNat k n' sq')
      case atStart => exact ⟨rfl, sq, rfl, rfl, b1, Nat.le_refl _, hI⟩
      case round =>
        clear hI
        obtain ⟨rfl, sq', rfl, rfl, c1, c2, hI⟩ := hrel
        by_cases he : gk % 2 = 0
        · have hI2 := VInv.half hI he (sq' := (sq' ^^ (n' % 8 == 3 || n' % 8 == 5))) rfl
          by_cases h3 : n' % 8 = 3
          · have e3 : (n' % 8 == 3 || n' % 8 == 5) = true := by simp [h3]
            rw [e3, Bool.xor_true] at hI2
            have t3 : ((n' : Int) % 8 == 3) = true := by simp; omega
            clear e3 hI h3
            go_wp2
            go_roundg (gk / 2)
            case measure => omega
            case rel => exact ⟨rfl, !sq', by go_num, rfl, by omega, by omega, hI2⟩
          have t3 : ((n' : Int) % 8 == 3) = false := by simp; omega
          by_cases h5 : n' % 8 = 5
          · have e3 : (n' % 8 == 3 || n' % 8 == 5) = true := by simp [h5]
            rw [e3, Bool.xor_true] at hI2
            have t5 : ((n' : Int) % 8 == 5) = true := by simp; omega
            clear e3 hI h3 h5
            go_wp2
            go_roundg (gk / 2)
            case measure => omega
            case rel => exact ⟨rfl, !sq', by go_num, rfl, by omega, by omega, hI2⟩
          · have e3 : (n' % 8 == 3 || n' % 8 == 5) = false := by simp [h3, h5]
            rw [e3, Bool.xor_false] at hI2
            have t5 : ((n' : Int) % 8 == 5) = false := by simp; omega
            clear e3 hI h3 h5
            go_wp2
            go_roundg (gk / 2)
            case measure => omega
            case rel => exact ⟨rfl, sq', by go_num, rfl, by omega, by omega, hI2⟩
        · by_cases h1 : gk = 1
          · have hI2 := VInv.one (h1 ▸ hI)
            go_wp2
            rw [Exit.noGoto_ret]
            go_ret
            exact ⟨ret_bool hI2, rfl⟩
          · have hI2 := VInv.step hI (by omega) (by omega) (sq' := (sq' ^^ (gk % 4 == 3 && n' % 4 == 3))) rfl
            have hlt := Nat.mod_lt n' (show 0 < gk by omega)
            by_cases h3 : gk % 4 = 3 ∧ n' % 4 = 3
            · obtain ⟨h3, h4⟩ := h3
              have e3 : (gk % 4 == 3 && n' % 4 == 3) = true := by simp [h3, h4]
              rw [e3, Bool.xor_true] at hI2
              clear e3 hI
              go_wp2
              go_roundg (n' % gk)
              case measure => omega
              case rel => exact ⟨rfl, gk, !sq', by go_num, rfl, rfl, hI2.2, by omega, by omega, hI2.1⟩
            · have e3 : (gk % 4 == 3 && n' % 4 == 3) = false := by
                by_cases h4 : gk % 4 = 3
                · have : ¬ n' % 4 = 3 := fun h => h3 ⟨h4, h⟩
                  simp [this]
                · simp [h4]
              rw [e3, Bool.xor_false] at hI2
              clear e3 hI
              by_cases h4 : gk % 4 = 3
              · have h5 : ¬ n' % 4 = 3 := fun h => h3 ⟨h4, h⟩
                clear h3
                go_wp2
                go_roundg (n' % gk)
                case measure => omega
                case rel => exact ⟨rfl, gk, sq', by go_num, rfl, rfl, hI2.2, by omega, by omega, hI2.1⟩
              · clear h3
                go_wp2
                go_roundg (n' % gk)
                case measure => omega
                case rel => exact ⟨rfl, gk, sq', by go_num, rfl, rfl, hI2.2, by omega, by omega, hI2.1⟩
    · obtain rfl : G = 1 := by omega
      have hI2 := VInv.one hI
      go_wp2
      rw [Exit.noGoto_ret]
      go_ret
      exact ⟨ret_bool hI2, rfl⟩

set_option maxHeartbeats 400000 in
theorem valid_out (x : Int) (h : ¬ (1 ≤ x ∧ x < 2147483579)) (w : World) :
    Calls Try.prog 32 #[.int .i64 x] w fun e w' => e = .returned (.bool false) ∧ w = w' := by
  by_cases h1 : x < 1
  · go_enter Try.func32, Try.ntmps32
    go_wp2
    go_step3
    go_wp2
    rw [Exit.noGoto_ret]
    go_ret
    exact ⟨rfl, rfl⟩
  · have h2 : 2147483579 ≤ x := by omega
    clear h
    go_enter Try.func32, Try.ntmps32
    go_wp2
    go_step3
    go_wp2
    rw [Exit.noGoto_ret]
    go_ret
    exact ⟨rfl, rfl⟩
theorem valid_any (x : Int) (w : World) :
    Calls Try.prog 32 #[.int .i64 x] w fun e w' => e = .returned (.bool (vld x)) ∧ w = w' := by
  by_cases h : 1 ≤ x ∧ x < 2147483579
  · rw [vld_jac h.1 h.2]; exact valid_in x h.1 h.2 w
  · rw [vld_out h]; exact valid_out x h w
end Go.Proofs.Ytlbnbginippjfaa
