import Derived.Test.YtlbnbginippjfaaEp
import Derived.Test.YtlbnbginippjfaaPow
import Derived.Deep.LoopGhost
import Derived.IntWalk
import Derived.WalkSmall
namespace Go.Proofs.Ytlbnbginippjfaa
open Go.RowKit Fk

theorem next_good {l : List Ep} {k : Nat} (h : ∀ j, j < k → goodAt l j) (hk : goodAt l k) : ∀ j, j < k + 1 → goodAt l j := fun j hj => by
  rcases Nat.lt_or_ge j k with h1 | h1
  · exact h j h1
  · obtain rfl : j = k := by omega
    exact hk
/-- the cells from offset off of block b on read as epochs -/
def EpS (w : World) (b off : Nat) (l : List Ep) : Prop := ∀ i, i < l.length → w.cell? ⟨b, off + i * 3, none⟩ = some (.int .i64 (l.getD i default).o) ∧
  w.cell? ⟨b, off + i * 3 + 1, none⟩ = some (.int .i64 (l.getD i default).f) ∧ w.cell? ⟨b, off + i * 3 + 2, none⟩ = some (.int .i64 (l.getD i default).k)

set_option maxRecDepth 100000 in
set_option maxHeartbeats 2000000 in
theorem epcheck_in (l : List Ep) (b off c : Nat) (w : World) (hb : b < w.heap.size) (hS : EpS w b off l) (hl : ¬ 256 < l.length) (hpos : 0 < l.length) :
    Calls Try.prog 56 #[.slice (some ⟨b, off, none⟩) l.length c] w fun e w' => e = .returned (.int .i64 (chkE l)) ∧ Below w.heap.size w w' := by
  go_enter Try.func56, Try.ntmps56
  go_wp2
  go_loopg [3, 4, 10] l.length (fun g _ _ i wr => Below w.heap.size w wr ∧ ∃ k : Nat, i = .int .i64 k ∧ k + g = l.length ∧ ∀ j, j < k → goodAt l j)
  case atStart => exact ⟨Below.refl _ _, 0, rfl, by omega, fun j hj => by omega⟩
  case round =>
    obtain ⟨hB, k, rfl, hk, hgood⟩ := hrel
    by_cases hlt : k < l.length
    · obtain ⟨c1, c2, c3⟩ := hS k hlt
      rw [← hB.cell (p := ⟨b, _, none⟩) hb] at c1 c2 c3
      have HG := Lib.hid hgood
      clear hgood
      obtain ⟨x, hx⟩ : ∃ x, l.getD k default = x := ⟨_, rfl⟩
      rw [hx] at c1 c2 c3
      have hG : ∀ q : epOK x ∧ (0 < k → epLt (l.getD (k - 1) default) x), goodAt l k := fun q => by unfold goodAt; rw [hx]; exact q
      have hN : ¬ (epOK x ∧ (0 < k → epLt (l.getD (k - 1) default) x)) → chkE l = 470 := fun q => chkE_bad hl hlt (fun hc => q (by unfold goodAt at hc; rwa [hx] at hc))
      clear hx
      have HGo := Lib.hid hG
      have HNo := Lib.hid hN
      clear hG hN
      by_cases ho : 0 ≤ x.o
      rotate_left
      · have H470 := Lib.hid (HNo.out (fun hc => ho hc.1.1))
        go_wp2_with (go_at_call 32; refine (valid_any _ _).mono ?_; rintro e w1 ⟨rfl, rfl⟩)
        all_goals go_ret
        all_goals exact ⟨ret_int H470.out.symm, hB.alloc hB.size _⟩
      by_cases hf : 0 ≤ x.f
      rotate_left
      · have H470 := Lib.hid (HNo.out (fun hc => hf hc.1.2.1))
        go_wp2_with (go_at_call 32; refine (valid_any _ _).mono ?_; rintro e w1 ⟨rfl, rfl⟩)
        all_goals go_ret
        all_goals exact ⟨ret_int H470.out.symm, hB.alloc hB.size _⟩
      by_cases ho2 : x.o < 24
      rotate_left
      · have H470 := Lib.hid (HNo.out (fun hc => ho2 hc.1.2.2.1))
        go_wp2_with (go_at_call 32; refine (valid_any _ _).mono ?_; rintro e w1 ⟨rfl, rfl⟩)
        all_goals go_ret
        all_goals exact ⟨ret_int H470.out.symm, hB.alloc hB.size _⟩
      by_cases hf2 : x.f < 2097152
      rotate_left
      · have H470 := Lib.hid (HNo.out (fun hc => hf2 hc.1.2.2.2.1))
        go_wp2_with (go_at_call 32; refine (valid_any _ _).mono ?_; rintro e w1 ⟨rfl, rfl⟩)
        all_goals go_ret
        all_goals exact ⟨ret_int H470.out.symm, hB.alloc hB.size _⟩
      by_cases hk1 : x.k ≠ 1
      rotate_left
      · have H470 := Lib.hid (HNo.out (fun hc => hk1 hc.1.2.2.2.2.1))
        go_wp2_with (go_at_call 32; refine (valid_any _ _).mono ?_; rintro e w1 ⟨rfl, rfl⟩)
        all_goals go_ret
        all_goals exact ⟨ret_int H470.out.symm, hB.alloc hB.size _⟩
      by_cases hv : vld x.k = true
      rotate_left
      · have H470 := Lib.hid (HNo.out (fun hc => hv hc.1.2.2.2.2.2))
        have hv' : vld x.k = false := by simpa using hv
        have hk2 : (x.k == 1) = false := by simpa using hk1
        clear hv
        go_wp2_with (go_at_call 32; refine (valid_any _ _).mono ?_; rintro e w1 ⟨rfl, rfl⟩)
        all_goals go_ret
        all_goals exact ⟨ret_int H470.out.symm, hB.alloc hB.size _⟩
      have hk2 : (x.k == 1) = false := by simpa using hk1
      have hOK : epOK x := ⟨ho, hf, ho2, hf2, hk1, hv⟩
      obtain ⟨m, hm⟩ : ∃ m, (if x.f < x.o then x.f else x.o) = m := ⟨_, rfl⟩
      have hm0 : 0 ≤ m := by rw [← hm]; split <;> omega
      have g1 : decide (m < 0) = false := by simp; omega
      have g2 : decide (24 ≤ x.o) = false := by simp; omega
      have g3 : decide (2097152 ≤ x.f) = false := by simp; omega
      clear hk1
      by_cases hk0 : 0 < k
      · have hpr := hS (k - 1) (by omega)
        rw [← hB.cell (p := ⟨b, _, none⟩) hb, ← hB.cell (p := ⟨b, _, none⟩) hb, ← hB.cell (p := ⟨b, _, none⟩) hb] at hpr
        obtain ⟨y, hy⟩ : ∃ y, l.getD (k - 1) default = y := ⟨_, rfl⟩
        rw [hy] at hpr HGo HNo
        clear hy
        obtain ⟨d1, d2, _⟩ := hpr
        have hbw : b < wr.heap.size := Nat.lt_of_lt_of_le hb hB.size
        have e1 : ∀ o, (wr.alloc o).cell? ⟨b, off + (k - 1) * 3, none⟩ = some (.int .i64 y.o) := fun o => (World.cell?_alloc_lt wr o _ hbw).trans d1
        have e2 : ∀ o, (wr.alloc o).cell? ⟨b, off + (k - 1) * 3 + 1, none⟩ = some (.int .i64 y.f) := fun o => (World.cell?_alloc_lt wr o _ hbw).trans d2
        by_cases hlt1 : x.o < y.o
        · have H470 := Lib.hid (HNo.out (fun hc => by have := hc.2 hk0; unfold epLt at this; omega))
          have s7 : decide (x.o < y.o) = true := by simp; omega
          go_wp2_with (go_at_call 32; refine (valid_any _ _).mono ?_; rintro e w1 ⟨rfl, rfl⟩)
          have s1 : IntKind.i64.wrap ((k : Int) - 1) = (k : Int) - 1 := IntWalk.i64_in _ (by omega)
          have s2 : (0 : Int) ≤ (k : Int) - 1 := by omega
          have s3 : ((k : Int) - 1).toNat = k - 1 := by omega
          have s4 : (k : Int) - 1 < l.length := by omega
          have s5 : (1 : Int) ≤ k := by omega
          have s6 : (0 : Int) < k := by omega
          clear HGo HNo HG hm hm0 g1 g2 g3
          go_quiet (fail)
          clear s1 s2 s3 s4 s5 s6
          go_wp2
          all_goals go_ret
          all_goals exact ⟨ret_int H470.out.symm, by first | exact hB.alloc hB.size _ | exact below_drewN (hB.alloc hB.size _) _⟩
        by_cases heq : x.o = y.o
        · by_cases hle : x.f ≤ y.f
          · have H470 := Lib.hid (HNo.out (fun hc => by have := hc.2 hk0; unfold epLt at this; omega))
            clear hlt1
            have s7 : decide (x.o < y.o) = false := by simp; omega
            have s8 : (x.o == y.o) = true := by simp; omega
            have s9 : decide (x.f ≤ y.f) = true := by simp; omega
            clear heq
            go_wp2_with (go_at_call 32; refine (valid_any _ _).mono ?_; rintro e w1 ⟨rfl, rfl⟩)
            have s1 : IntKind.i64.wrap ((k : Int) - 1) = (k : Int) - 1 := IntWalk.i64_in _ (by omega)
            have s2 : (0 : Int) ≤ (k : Int) - 1 := by omega
            have s3 : ((k : Int) - 1).toNat = k - 1 := by omega
            have s4 : (k : Int) - 1 < l.length := by omega
            have s5 : (1 : Int) ≤ k := by omega
            have s6 : (0 : Int) < k := by omega
            clear HGo HNo HG hm hm0 g1 g2 g3
            go_quiet (fail)
            clear s1 s2 s3 s4 s5 s6
            go_wp2
            all_goals go_ret
            all_goals exact ⟨ret_int H470.out.symm, by first | exact hB.alloc hB.size _ | exact below_drewN (hB.alloc hB.size _) _⟩
          · have HG2 : Hid (∀ j, j < k + 1 → goodAt l j) := next_good HG.out (HGo.out ⟨hOK, fun _ => by unfold epLt; omega⟩)
            clear hlt1
            have s7 : decide (x.o < y.o) = false := by simp; omega
            have s8 : (x.o == y.o) = true := by simp; omega
            have s9 : decide (x.f ≤ y.f) = false := by simp; omega
            clear heq
            go_wp2_with (go_at_call 32; refine (valid_any _ _).mono ?_; rintro e w1 ⟨rfl, rfl⟩)
            have s1 : IntKind.i64.wrap ((k : Int) - 1) = (k : Int) - 1 := IntWalk.i64_in _ (by omega)
            have s2 : (0 : Int) ≤ (k : Int) - 1 := by omega
            have s3 : ((k : Int) - 1).toNat = k - 1 := by omega
            have s4 : (k : Int) - 1 < l.length := by omega
            have s5 : (1 : Int) ≤ k := by omega
            have s6 : (0 : Int) < k := by omega
            clear HGo HNo HG hm hm0 g1 g2 g3
            go_quiet (fail)
            clear s1 s2 s3 s4 s5 s6
            go_wp2
            go_roundg (gk - 1)
            case measure => omega
            case rel => exact ⟨by first | exact hB.alloc hB.size _ | exact below_drewN (hB.alloc hB.size _) _, k + 1, by go_num, by omega, HG2.out⟩
        · have HG2 : Hid (∀ j, j < k + 1 → goodAt l j) := next_good HG.out (HGo.out ⟨hOK, fun _ => by unfold epLt; omega⟩)
          have s7 : decide (x.o < y.o) = false := by simp; omega
          have s8 : (x.o == y.o) = false := by simp; omega
          go_wp2_with (go_at_call 32; refine (valid_any _ _).mono ?_; rintro e w1 ⟨rfl, rfl⟩)
          have s1 : IntKind.i64.wrap ((k : Int) - 1) = (k : Int) - 1 := IntWalk.i64_in _ (by omega)
          have s2 : (0 : Int) ≤ (k : Int) - 1 := by omega
          have s3 : ((k : Int) - 1).toNat = k - 1 := by omega
          have s4 : (k : Int) - 1 < l.length := by omega
          have s5 : (1 : Int) ≤ k := by omega
          have s6 : (0 : Int) < k := by omega
          clear heq HGo HNo HG hm hm0 g1 g2 g3
          go_quiet (fail)
          clear s1 s2 s3 s4 s5 s6
          go_wp2
          go_roundg (gk - 1)
          case measure => omega
          case rel => exact ⟨by first | exact hB.alloc hB.size _ | exact below_drewN (hB.alloc hB.size _) _, k + 1, by go_num, by omega, HG2.out⟩
      · obtain rfl : k = 0 := by omega
        simp only [Nat.zero_mul, Nat.add_zero] at c1 c2 c3
        have HG2 : Hid (∀ j, j < 0 + 1 → goodAt l j) := next_good HG.out (HGo.out ⟨hOK, fun h => absurd h (by omega)⟩)
        go_wp2_with (go_at_call 32; refine (valid_any _ _).mono ?_; rintro e w1 ⟨rfl, rfl⟩)
        go_quiet (fail)
        go_wp2
        go_roundg (gk - 1)
        case measure => omega
        case rel => exact ⟨by first | exact hB.alloc hB.size _ | exact below_drewN (hB.alloc hB.size _) _, 1, by go_num, by omega, HG2.out⟩
    · have H0 := Lib.hid (chkE_good hl (fun j hj => hgood j (by omega)))
      clear hgood
      go_wp2
      go_ret
      exact ⟨ret_int H0.out.symm, hB⟩
end Go.Proofs.Ytlbnbginippjfaa
