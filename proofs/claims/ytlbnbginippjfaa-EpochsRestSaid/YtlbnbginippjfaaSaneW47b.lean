import Derived.Test.YtlbnbginippjfaaSane47b
import Derived.Deep.Cut
namespace Go.Proofs.Ytlbnbginippjfaa
open Go.RowKit Fk

set_option maxRecDepth 100000 in
set_option maxHeartbeats 4000000 in
theorem sane47 (w : World) : Calls Try.prog 33 #[] w fun e w' => e = .returned (.bool true) ∧ Below w.heap.size w w' := by
  have hS := SlG.ep (new_sl (enc := encEp) (m := 3) w 76 eL0 #[.int .i64 3, .int .i64 5, .int .i64 4, .int .i64 3, .int .i64 9, .int .i64 16] rfl (fun _ => rfl) (by simp [eL0]) 2 2 rfl)
  have hZ := (Below.refl w.heap.size w).alloc (Nat.le_refl _) (.cells #[.int .i64 3, .int .i64 5, .int .i64 4, .int .i64 3, .int .i64 9, .int .i64 16] 76)
  go_enter Try.func33, Try.ntmps33
  go_wp2_with (fail)
  obtain ⟨W0, hW0⟩ : ∃ W0, w.alloc (.cells #[.int .i64 3, .int .i64 5, .int .i64 4, .int .i64 3, .int .i64 9, .int .i64 16] 76) = W0 := ⟨_, rfl⟩
  have hl0 : W0.cell? ⟨w.heap.size, 0, none⟩ = some (.int .i64 3) ∧ W0.cell? ⟨w.heap.size, 1, none⟩ = some (.int .i64 5) ∧ W0.cell? ⟨w.heap.size, 2, none⟩ = some (.int .i64 4) ∧ W0.cell? ⟨w.heap.size, 3, none⟩ = some (.int .i64 3) ∧ W0.cell? ⟨w.heap.size, 4, none⟩ = some (.int .i64 9) ∧ W0.cell? ⟨w.heap.size, 5, none⟩ = some (.int .i64 16) := by rw [← hW0]; simp
  rw [hW0] at hS hZ ⊢
  have hz : w.heap.size < W0.heap.size := by rw [← hW0]; simp
  have hY : Below W0.heap.size W0 W0 := Below.refl _ _
  clear hW0
  have HL := Lib.hid hl0
  clear hl0
  go_upto_region 16 with (first
    | (go_at_call 53; with_reducible refine (key_c1 _ _ _ (Nat.le_refl _) hS).mono ?_; rintro e w1 ⟨rfl, hb⟩; replace hY := hY.trans (hb.mono hY.size); replace hS := hS.step hb; clear hb)
    | (go_at_call 53; with_reducible refine (key_c2 _ _ _ (Nat.le_refl _) hS).mono ?_; rintro e w1 ⟨rfl, hb⟩; replace hY := hY.trans (hb.mono hY.size); replace hS := hS.step hb; clear hb)
    | (go_at_call 53; with_reducible refine (key_c3 _ _ _ (Nat.le_refl _) hS).mono ?_; rintro e w1 ⟨rfl, hb⟩; replace hY := hY.trans (hb.mono hY.size); replace hS := hS.step hb; clear hb)
    | (go_at_call 53; with_reducible refine (key_c4 _).mono ?_; rintro e w1 ⟨rfl, hb⟩; replace hY := hY.trans (hb.mono hY.size); replace hS := hS.step hb; clear hb)
    | (go_at_call 53; with_reducible refine (key_c5 _ _ _ (Nat.le_refl _) hS).mono ?_; rintro e w1 ⟨rfl, hb⟩; replace hY := hY.trans (hb.mono hY.size); replace hS := hS.step hb; clear hb)
    | (go_at_call 34; with_reducible refine (rest_c1 _).mono ?_; rintro e w1 ⟨r1, rfl, hb, hr1⟩; replace hY := hY.trans (hb.mono hY.size); replace hS := hS.step hb; clear hb)
    | (go_at_call 34; with_reducible refine (rest_c2 _).mono ?_; rintro e w1 ⟨r2, rfl, hb, hr2⟩; replace hY := hY.trans (hb.mono hY.size); replace hS := hS.step hb; replace hr1 := hr1.step hb; clear hb)
    | (go_at_call 34; with_reducible refine (rest_c3 _).mono ?_; rintro e w1 ⟨r, rfl, hb⟩; replace hY := hY.trans (hb.mono hY.size); replace hS := hS.step hb; replace hr1 := hr1.step hb; replace hr2 := hr2.step hb; clear hb)
    | (go_at_call 54; with_reducible refine (deal_c1 _).mono ?_; rintro e w1 ⟨r3, rfl, hb, hr3⟩; replace hY := hY.trans (hb.mono hY.size); replace hS := hS.step hb; replace hr1 := hr1.step hb; replace hr2 := hr2.step hb; clear hb)
    | (go_at_call 54; with_reducible refine (deal_c2 _).mono ?_; rintro e w1 ⟨r, rfl, hb⟩; replace hY := hY.trans (hb.mono hY.size); replace hS := hS.step hb; replace hr1 := hr1.step hb; replace hr2 := hr2.step hb; replace hr3 := hr3.step hb; clear hb)
    | (go_at_call 54; with_reducible refine (deal_c3 _).mono ?_; rintro e w1 ⟨r, rfl, hb⟩; replace hY := hY.trans (hb.mono hY.size); replace hS := hS.step hb; replace hr1 := hr1.step hb; replace hr2 := hr2.step hb; replace hr3 := hr3.step hb; clear hb)
    | (go_at_call 55; with_reducible refine (rec_c1 _).mono ?_; rintro e w1 ⟨rfl, hb⟩; replace hY := hY.trans (hb.mono hY.size); replace hS := hS.step hb; replace hr1 := hr1.step hb; replace hr2 := hr2.step hb; replace hr3 := hr3.step hb; clear hb)
    | (go_at_call 55; with_reducible refine (rec_c2 _).mono ?_; rintro e w1 ⟨v2, rfl, hb⟩; replace hY := hY.trans (hb.mono hY.size); replace hS := hS.step hb; replace hr1 := hr1.step hb; replace hr2 := hr2.step hb; replace hr3 := hr3.step hb; clear hb)
    | (go_at_call 55; with_reducible refine (rec_c3 _).mono ?_; rintro e w1 ⟨v3, rfl, hb⟩; replace hY := hY.trans (hb.mono hY.size); replace hS := hS.step hb; replace hr1 := hr1.step hb; replace hr2 := hr2.step hb; replace hr3 := hr3.step hb; clear hb))
  go_upto_region 18 with (fail)
  have hg : w.heap.size < w1.heap.size := Nat.lt_of_lt_of_le hz hY.size
  have hS0 : S47 w.heap.size w1 w1 := by
    obtain ⟨h1, h2, h3, h4, h5, h6⟩ := HL.out
    exact ⟨Below.refl _ _, (hY.cell (p := ⟨w.heap.size, 0, none⟩) hz).trans h1, (hY.cell (p := ⟨w.heap.size, 1, none⟩) hz).trans h2, (hY.cell (p := ⟨w.heap.size, 2, none⟩) hz).trans h3, (hY.cell (p := ⟨w.heap.size, 3, none⟩) hz).trans h4, (hY.cell (p := ⟨w.heap.size, 4, none⟩) hz).trans h5, (hY.cell (p := ⟨w.heap.size, 5, none⟩) hz).trans h6⟩
  clear HL
  go_region_held3 (fun w' => Below w1.heap.size w1 w' ∧ w'.cell? ⟨w.heap.size, 0, none⟩ = some (.int .i64 3) ∧ w'.cell? ⟨w.heap.size, 1, none⟩ = some (.int .i64 5) ∧ w'.cell? ⟨w.heap.size, 2, none⟩ = some (.int .i64 4) ∧ w'.cell? ⟨w.heap.size, 3, none⟩ = some (.int .i64 3) ∧ w'.cell? ⟨w.heap.size, 4, none⟩ = some (.int .i64 9) ∧ w'.cell? ⟨w.heap.size, 5, none⟩ = some (.int .i64 16))
    (first | exact S47.drew hg hS0 | (refine S47.allocd hg ?_ _; assumption) | (refine S47.alloc hg ?_ _; assumption) | (exact S47.stepb hg (by assumption) (by assumption)))
    (first | (go_at_call 56; with_reducible refine (check_d1 _).mono ?_; rintro e w1 ⟨rfl, hb⟩) | (go_at_call 56; with_reducible refine (check_d2 _).mono ?_; rintro e w1 ⟨rfl, hb⟩))
  rename_i hh
  have hb := hh.1
  replace hY := hY.trans (hb.mono hY.size)
  replace hr1 := SlG.step hr1 hb
  replace hr2 := SlG.step hr2 hb
  replace hr3 := SlG.step hr3 hb
  clear hb hh hS
  go_wp2_with (first
    | (go_at_call 57; with_reducible refine (same_c1 _ _ hr1).mono ?_; rintro e w1 ⟨rfl, hb⟩; replace hY := hY.trans (hb.mono hY.size); replace hr2 := SlG.step hr2 hb; replace hr3 := SlG.step hr3 hb; clear hb)
    | (go_at_call 57; with_reducible refine (same_c2 _ _ hr2).mono ?_; rintro e w1 ⟨rfl, hb⟩; replace hY := hY.trans (hb.mono hY.size); replace hr3 := SlG.step hr3 hb; clear hb)
    | (go_at_call 58; with_reducible refine (same_c3 _ _ hr3).mono ?_; rintro e w1 ⟨rfl, hb⟩; replace hY := hY.trans (hb.mono hY.size); clear hb))
  go_ret
  exact ⟨rfl, hZ.trans (hY.mono hZ.size)⟩
end Go.Proofs.Ytlbnbginippjfaa
