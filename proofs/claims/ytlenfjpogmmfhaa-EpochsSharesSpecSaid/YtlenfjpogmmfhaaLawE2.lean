import Derived.Test.YtlenfjpogmmfhaaSaneW47
namespace Go.Proofs.Ytlenfjpogmmfhaa
open Go.RowKit Fk

set_option maxRecDepth 100000 in
set_option maxHeartbeats 4000000 in
theorem epochsSharesSpec_walk (l0 : List Int) (v0 : Value) (s : Int) (l2 : List Int) (v2 : Value) (n : Int) (l4 : List Sh) (v4 : Value) (w : World) (h0 : SlI w w.heap.size v0 l0) (h2 : SlI w w.heap.size v2 l2) (h4 : SlSh w w.heap.size v4 l4) :
    Calls Try.prog 9 #[v0, .int .i64 s, v2, .int .i64 n, v4] w fun e w' => e = .returned (.bool true) ∧ Below w.heap.size w w' := by
  have hv0 := h0
  have hv2 := h2
  have hv4 := h4
  obtain ⟨hlen0, A0, c0, rfl, _⟩ := hv0
  obtain ⟨hlen2, A2, c2, rfl, _⟩ := hv2
  obtain ⟨hlen4, A4, c4, rfl, _⟩ := hv4
  have hB : Below w.heap.size w w := Below.refl _ _
  by_cases hl0 : 40 < l0.length
  · go_enter Try.func9, Try.ntmps9
    go_wp2_with (go_at_call 25; refine (sane47 _).mono ?_; rintro e w1 ⟨rfl, hb⟩; replace hB := hB.trans (hb.mono hB.size); clear hb)
    all_goals go_ret
    all_goals exact ⟨rfl, hB⟩
  by_cases hl2 : 40 < l2.length
  · go_enter Try.func9, Try.ntmps9
    go_wp2_with (go_at_call 25; refine (sane47 _).mono ?_; rintro e w1 ⟨rfl, hb⟩; replace hB := hB.trans (hb.mono hB.size); clear hb)
    all_goals go_ret
    all_goals exact ⟨rfl, hB⟩
  by_cases hl4 : 40 < l4.length
  · go_enter Try.func9, Try.ntmps9
    go_wp2_with (go_at_call 25; refine (sane47 _).mono ?_; rintro e w1 ⟨rfl, hb⟩; replace hB := hB.trans (hb.mono hB.size); clear hb)
    all_goals go_ret
    all_goals exact ⟨rfl, hB⟩
  have k1 := rest_any l0 (.slice A0 l0.length c0)
  have k2 := rrest_any l0 (.slice A0 l0.length c0)
  have k3 := deal_any s n l2 (.slice A2 l2.length c2)
  have k4 := rdeal_any s n l2 (.slice A2 l2.length c2)
  have k5 := recover_any l4 (.slice A4 l4.length c4)
  have k6 := rrecover_any l4 (.slice A4 l4.length c4)
  obtain ⟨E0, hE0⟩ : ∃ E, restE l0 = E := ⟨_, rfl⟩
  obtain ⟨E2, hE2⟩ : ∃ E, dealE s l2.length n = E := ⟨_, rfl⟩
  obtain ⟨E4, hE4⟩ : ∃ E, recE l4 = E := ⟨_, rfl⟩
  obtain ⟨V4, hV4⟩ : ∃ V, recV l4 = V := ⟨_, rfl⟩
  rw [hE0] at k1 k2
  rw [hE2] at k3 k4
  rw [hE4, hV4] at k5 k6
  have b1 : (E0 == E0) = true := by simp
  have b2 : (E2 == E2) = true := by simp
  have b3 : (E4 == E4) = true := by simp
  have b4 : (V4 == V4) = true := by simp
  clear hE0 hE2 hE4 hV4
  have K1 := Lib.hid k1
  have K2 := Lib.hid k2
  have K3 := Lib.hid k3
  have K4 := Lib.hid k4
  have K5 := Lib.hid k5
  have K6 := Lib.hid k6
  clear k1 k2 k3 k4 k5 k6
  go_enter Try.func9, Try.ntmps9
  go_wp2_with (first
    | (go_at_call 25; refine (sane47 _).mono ?_; rintro e w1 ⟨rfl, hb⟩; replace hB := hB.trans (hb.mono hB.size); clear hb)
    | (go_at_call 30; refine (K1.out _ _ hB.size (h0.below hB)).mono ?_; rintro e w1 ⟨r1, rfl, hb, hr1⟩; replace hB := hB.trans (hb.mono hB.size); clear hb)
    | (go_at_call 31; refine (K2.out _ _ hB.size (h0.below hB)).mono ?_; rintro e w1 ⟨r2, rfl, hb, hr2⟩; replace hB := hB.trans (hb.mono hB.size); replace hr1 := SlG.step hr1 hb; clear hb)
    | (go_at_call 32; refine (K3.out _ _ hB.size (h2.below hB)).mono ?_; rintro e w1 ⟨r3, rfl, hb, hr3⟩; replace hB := hB.trans (hb.mono hB.size); replace hr1 := SlG.step hr1 hb; replace hr2 := SlG.step hr2 hb; clear hb)
    | (go_at_call 33; refine (K4.out _ _ hB.size (h2.below hB)).mono ?_; rintro e w1 ⟨r4, rfl, hb, hr4⟩; replace hB := hB.trans (hb.mono hB.size); replace hr1 := SlG.step hr1 hb; replace hr2 := SlG.step hr2 hb; replace hr3 := SlG.step hr3 hb; clear hb)
    | (go_at_call 34; refine (K5.out _ _ hB.size (h4.below hB)).mono ?_; rintro e w1 ⟨rfl, hb⟩; replace hB := hB.trans (hb.mono hB.size); replace hr1 := SlG.step hr1 hb; replace hr2 := SlG.step hr2 hb; replace hr3 := SlG.step hr3 hb; replace hr4 := SlG.step hr4 hb; clear hb)
    | (go_at_call 35; refine (K6.out _ _ hB.size (h4.below hB)).mono ?_; rintro e w1 ⟨rfl, hb⟩; replace hB := hB.trans (hb.mono hB.size); replace hr1 := SlG.step hr1 hb; replace hr2 := SlG.step hr2 hb; replace hr3 := SlG.step hr3 hb; replace hr4 := SlG.step hr4 hb; clear hb)
    | (go_at_call 36; refine (sameints_any _ _ _ _ _ (Nat.le_refl _) hr1 hr2).mono ?_; rintro e w1 ⟨rfl, hb⟩; replace hB := hB.trans (hb.mono hB.size); replace hr3 := SlG.step hr3 hb; replace hr4 := SlG.step hr4 hb; clear hb)
    | (go_at_call 37; refine (same_any _ _ _ _ _ (Nat.le_refl _) hr3 hr4).mono ?_; rintro e w1 ⟨rfl, hb⟩; replace hB := hB.trans (hb.mono hB.size); clear hb))
  go_ret
  exact ⟨rfl, hB⟩
end Go.Proofs.Ytlenfjpogmmfhaa
