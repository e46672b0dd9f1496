import Derived.Test.YtlenfjpogmmfhaaSaneW47
namespace Go.Proofs.Ytlenfjpogmmfhaa
open Go.RowKit Fk

set_option maxHeartbeats 2000000 in
theorem epochsSpec_walk (l : List Ep) (v : Value) (o t : Int) (w : World) (h : SlEp w w.heap.size v l) :
    Calls Try.prog 8 #[v, .int .i64 o, .int .i64 t] w fun e w' => e = .returned (.bool true) ∧ Below w.heap.size w w' := by
  have hv := h
  obtain ⟨hlen, A, c, rfl, _⟩ := hv
  have hB : Below w.heap.size w w := Below.refl _ _
  obtain ⟨C, hC⟩ : ∃ C, chkE l = C := ⟨_, rfl⟩
  obtain ⟨K, hK⟩ : ∃ K, keyC l o t = K := ⟨_, rfl⟩
  obtain ⟨O, hO⟩ : ∃ O, okC l o t = O := ⟨_, rfl⟩
  obtain ⟨E, hE⟩ : ∃ E, keyE l o t = E := ⟨_, rfl⟩
  have c1 := epcheck_any l (.slice A l.length c)
  have c2 := refepcheck_any l (.slice A l.length c)
  have c3 := key_any l (.slice A l.length c) o t
  have c4 := refkey_any l (.slice A l.length c) o t
  rw [hC] at c1 c2
  rw [hK, hO, hE] at c3 c4
  have b1 : (C == C) = true := by simp
  have b2 : (K == K) = true := by simp
  have b3 : (O == O) = true := by simp
  have b4 : (E == E) = true := by simp
  clear hC hK hO hE
  have H1 := Lib.hid c1
  have H2 := Lib.hid c2
  have H3 := Lib.hid c3
  have H4 := Lib.hid c4
  clear c1 c2 c3 c4
  by_cases hl : 40 < l.length ∧ l.length ≤ 256
  · obtain ⟨l1, l2⟩ := hl
    go_enter Try.func8, Try.ntmps8
    go_wp2_with (go_at_call 25; refine (sane47 _).mono ?_; rintro e w1 ⟨rfl, hb⟩; replace hB := hB.trans (hb.mono hB.size); clear hb)
    go_ret
    exact ⟨rfl, hB⟩
  · have hl' : decide (40 < (l.length : Int)) = false ∨ decide ((l.length : Int) ≤ 256) = false := by simp; omega
    go_enter Try.func8, Try.ntmps8
    go_wp2_with (first
      | (go_at_call 25; refine (sane47 _).mono ?_; rintro e w1 ⟨rfl, hb⟩; replace hB := hB.trans (hb.mono hB.size); clear hb)
      | (go_at_call 26; refine (H3.out _ _ hB.size (h.below hB)).mono ?_; rintro e w1 ⟨rfl, hb⟩; replace hB := hB.trans (hb.mono hB.size); clear hb)
      | (go_at_call 27; refine (H4.out _ _ hB.size (h.below hB)).mono ?_; rintro e w1 ⟨rfl, hb⟩; replace hB := hB.trans (hb.mono hB.size); clear hb)
      | (go_at_call 28; refine (H1.out _ _ hB.size (h.below hB)).mono ?_; rintro e w1 ⟨rfl, hb⟩; replace hB := hB.trans (hb.mono hB.size); clear hb)
      | (go_at_call 29; refine (H2.out _ _ hB.size (h.below hB)).mono ?_; rintro e w1 ⟨rfl, hb⟩; replace hB := hB.trans (hb.mono hB.size); clear hb))
    all_goals go_ret
    all_goals first | exact ⟨rfl, hB⟩ | omega
end Go.Proofs.Ytlenfjpogmmfhaa
