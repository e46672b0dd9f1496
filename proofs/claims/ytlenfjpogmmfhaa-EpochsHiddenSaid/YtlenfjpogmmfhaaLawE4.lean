import Derived.Test.YtlenfjpogmmfhaaPicked
namespace Go.Proofs.Ytlenfjpogmmfhaa
open Go.RowKit Fk

set_option maxHeartbeats 2000000 in
theorem epochsShares_walk (s : Int) (l : List Int) (v : Value) (n b : Int) (t : Bool) (w : World) (h : SlI w w.heap.size v l) :
    Calls Try.prog 11 #[.int .i64 s, v, .int .i64 n, .int .u32 b, .bool t] w fun e w' => e = .returned (.bool true) ∧ Below w.heap.size w w' := by
  have hv := h
  obtain ⟨hlen, A, c, rfl, _⟩ := hv
  have hB : Below w.heap.size w w := Below.refl _ _
  have c1 := fun (w : World) => deal_any s n l (.slice A l.length c) w
  have HS := Lib.hid h
  by_cases hE : dealE s l.length n = 0
  rotate_left
  · have e2 : dealV s l n = [] := by unfold dealV; rw [if_neg hE]
    obtain ⟨E, hEE⟩ : ∃ E, dealE s l.length n = E := ⟨_, rfl⟩
    rw [e2, hEE] at c1
    rw [hEE] at hE
    have b1 : (E != 0) = true := by simpa using hE
    have H1 := Lib.hid c1
    clear c1 e2 hEE hE
    go_enter Try.func11, Try.ntmps11
    go_wp2_with (first
      | (go_at_call 25; refine (sane47 _).mono ?_; rintro e w1 ⟨rfl, hb⟩; replace hB := hB.trans (hb.mono hB.size); clear hb)
      | (go_at_call 32; refine (H1.out _ _ hB.size (h.below hB)).mono ?_; rintro e w1 ⟨r, rfl, hb, hs⟩; replace hB := hB.trans (hb.mono hB.size); clear hb; obtain ⟨_, A2, c2, rfl, _⟩ := hs))
    go_ret
    exact ⟨rfl, hB⟩
  have hok : 1 ≤ s ∧ s < 1073741789 ∧ 1 ≤ n ∧ n ≤ 24 ∧ (l.length : Int) < n := by
    unfold dealE at hE
    split at hE
    · omega
    · split at hE
      · omega
      · omega
  obtain ⟨s1, s2, n1, n2, n3⟩ := hok
  have e2 : dealV s l n = dealTo s l n.toNat := by unfold dealV; rw [if_pos hE]
  rw [e2, hE] at c1
  have hdl := dealTo_length s l n.toNat
  obtain ⟨D, hD⟩ : ∃ D, dealTo s l n.toNat = D := ⟨_, rfl⟩
  have hlaw := fun hm => shares_law (s := s) (more := l) (n := n.toNat) (bitU b) n.toNat t s1 s2 (by omega) hm
  rw [hD] at c1 hdl hlaw
  have c2 := fun (v : Value) (w : World) => picked_any D v b n t w w.heap.size (Nat.le_refl _) (by omega) (by omega)
  obtain ⟨X, hX⟩ : ∃ X, pkL (bitU b) n.toNat t D n.toNat = X := ⟨_, rfl⟩
  rw [hdl, hX] at c2
  have hlX : X.length ≤ 24 := by rw [← hX]; have := (pk_len (bitU b) n.toNat t D n.toNat).1; omega
  rw [hX] at hlaw
  have c3 := fun (v : Value) (w : World) => recover_any X v w w.heap.size (Nat.le_refl _)
  have hDn : (D.length : Int) = n := by omega
  have H1 := Lib.hid c1
  have H2 := Lib.hid c2
  have hq : ((D.length : Int) != n) = false := by simpa using hDn
  clear hdl hE e2 hX hD c1 c2 hDn
  by_cases hm : l.length < X.length
  · obtain ⟨r1, r2⟩ := hlaw hm
    rw [r1, r2] at c3
    have H3 := Lib.hid c3
    clear c3 hlaw r1 r2
    go_enter Try.func11, Try.ntmps11
    go_wp2_with (first
      | (go_at_call 25; refine (sane47 _).mono ?_; rintro e w1 ⟨rfl, hb⟩; replace hB := hB.trans (hb.mono hB.size); clear hb)
      | (go_at_call 32; refine (H1.out _ _ hB.size (h.below hB)).mono ?_; rintro e w1 ⟨r, rfl, hb, hs⟩; replace hB := hB.trans (hb.mono hB.size); clear hb; have hs2 := hs; obtain ⟨_, A2, c2, rfl, _⟩ := hs2; have hc2 := H2.out _ _ hs; clear hs)
      | (go_at_call 38; refine hc2.mono ?_; rintro e w1 ⟨r, rfl, hb, hs⟩; replace hB := hB.trans (hb.mono hB.size); clear hb hc2; have hs2 := hs; obtain ⟨_, A2, c2, rfl, _⟩ := hs2; have hc3 := H3.out _ _ hs; clear hs)
      | (go_at_call 34; refine hc3.mono ?_; rintro e w1 ⟨rfl, hb⟩; replace hB := hB.trans (hb.mono hB.size); clear hb hc3))
    go_ret
    exact ⟨rfl, hB⟩
  · clear hlaw c3
    go_enter Try.func11, Try.ntmps11
    go_wp2_with (first
      | (go_at_call 25; refine (sane47 _).mono ?_; rintro e w1 ⟨rfl, hb⟩; replace hB := hB.trans (hb.mono hB.size); clear hb)
      | (go_at_call 32; refine (H1.out _ _ hB.size (h.below hB)).mono ?_; rintro e w1 ⟨r, rfl, hb, hs⟩; replace hB := hB.trans (hb.mono hB.size); clear hb; have hs2 := hs; obtain ⟨_, A2, c2, rfl, _⟩ := hs2; have hc2 := H2.out _ _ hs; clear hs)
      | (go_at_call 38; refine hc2.mono ?_; rintro e w1 ⟨r, rfl, hb, hs⟩; replace hB := hB.trans (hb.mono hB.size); clear hb hc2; obtain ⟨_, A2, c2, rfl, _⟩ := hs))
    go_ret
    exact ⟨rfl, hB⟩
end Go.Proofs.Ytlenfjpogmmfhaa
