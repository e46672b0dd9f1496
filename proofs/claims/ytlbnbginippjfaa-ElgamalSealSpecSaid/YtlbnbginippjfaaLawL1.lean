import Derived.Test.YtlbnbginippjfaaElT
import Derived.Test.YtlbnbginippjfaaStep
set_option linter.unusedSimpArgs false
namespace Go.Proofs.Ytlbnbginippjfaa
open Go.RowKit Fk
set_option maxRecDepth 100000 in
set_option maxHeartbeats 2000000 in
theorem elgamalKeySpec_walk (n : Int) (l : List Int) (v : Value) (w : World) (h : SlI w w.heap.size v l) :
    Calls Try.prog 3 #[.int .i64 n, v] w fun e w' => e = .returned (.bool true) ∧ Below w.heap.size w w' := by
  have hv := h
  obtain ⟨hlen, A, c, rfl, _⟩ := hv
  have hB : Below w.heap.size w w := Below.refl _ _
  have c1 := fun w => public_any n w
  have c2 := fun w => rpublic_any n w
  have c3 := fun w => join_any l (.slice A l.length c) w
  have c4 := fun w => rjoin_any l (.slice A l.length c) w
  generalize pubC n = p at *
  generalize pubE n = q at *
  generalize joinC l = j at *
  generalize joinE l = k at *
  have b1 : (p == p) = true := by simp
  have b2 : (q == q) = true := by simp
  have b3 : (j == j) = true := by simp
  have b4 : (k == k) = true := by simp
  have H1 := Lib.hid c1
  have H2 := Lib.hid c2
  have H3 := Lib.hid c3
  have H4 := Lib.hid c4
  clear c1 c2 c3 c4
  by_cases hl : 20 < l.length
  · go_enter Try.func3, Try.ntmps3
    go_wp2_with (go_at_call 11; refine (sane10 _).mono ?_; rintro e w1 ⟨rfl, hb⟩; replace hB := hB.trans (hb.mono hB.size); clear hb)
    go_ret
    exact ⟨rfl, hB⟩
  · go_enter Try.func3, Try.ntmps3
    go_wp2_with (first
      | (go_at_call 11; refine (sane10 _).mono ?_; rintro e w1 ⟨rfl, hb⟩; replace hB := hB.trans (hb.mono hB.size); clear hb)
      | (go_at_call 12; refine (H1.out _).mono ?_; rintro e w1 ⟨rfl, hb⟩; replace hB := hB.trans (hb.mono hB.size); clear hb)
      | (go_at_call 13; refine (H2.out _).mono ?_; rintro e w1 ⟨rfl, rfl⟩)
      | (go_at_call 14; refine (H3.out _ _ (h.below hB)).mono ?_; rintro e w1 ⟨rfl, rfl⟩)
      | (go_at_call 15; refine (H4.out _ _ (h.below hB)).mono ?_; rintro e w1 ⟨rfl, rfl⟩))
    go_ret
    exact ⟨rfl, hB⟩

set_option maxRecDepth 100000 in
set_option maxHeartbeats 2000000 in
theorem elgamalSealSpec_walk (key : Int) (t : Tr) (s : Se) (r : Tr) (w : World) :
    Calls Try.prog 4 #[.int .i64 key, t.val, s.val, r.val] w fun e w' => e = .returned (.bool true) ∧ Below w.heap.size w w' := by
  have c1 := fun w => seal_any key t r w
  have c2 := fun w => rseal_any key t r w
  have c3 := fun w => again_any key s r w
  have c4 := fun w => ragain_any key s r w
  generalize sealC key t r = p at *
  generalize sealE key t = q at *
  generalize againC key s r = j at *
  generalize againE key s = k at *
  have b1 := fun w => runS p p w
  have b2 : (q == q) = true := by simp
  have b3 := fun w => runS j j w
  have b4 : (k == k) = true := by simp
  rw [eqSe_self] at b1 b3
  unfold Se.val Tr.val at *
  have H1 := Lib.hid c1
  have H2 := Lib.hid c2
  have H3 := Lib.hid c3
  have H4 := Lib.hid c4
  clear c1 c2 c3 c4
  go_enter Try.func4, Try.ntmps4
  go_wp2_with (first
    | (go_at_call 11; (with_reducible refine (sane10 _).mono ?_); rintro e w1 ⟨rfl, hb⟩; obtain ⟨hB, hzp2, p0, p1, p2⟩ := stepP3 hb; have hzp1 := lt_s hzp2; have hzp0 := lt_s hzp1; clear hb; obtain ⟨p0c0, p0c1, p0c2⟩ := st3 p0; obtain ⟨p1c0, p1c1, p1c2, p1c3, p1c4, p1c5⟩ := st6 p1; obtain ⟨p2c0, p2c1, p2c2⟩ := st3 p2)
    | (go_at_call 16; (with_reducible refine (H1.out _).mono ?_); rintro e w2 ⟨rfl, hb⟩; obtain ⟨hB, hzn, hk⟩ := step0 hB hb; replace p0 := hk _ _ _ p0; replace hzp0 := lt_t hzp0 hzn; replace p1 := hk _ _ _ p1; replace hzp1 := lt_t hzp1 hzn; replace p2 := hk _ _ _ p2; replace hzp2 := lt_t hzp2 hzn; clear hzn hk hb; clear p0c0 p0c1 p0c2 p1c0 p1c1 p1c2 p1c3 p1c4 p1c5 p2c0 p2c1 p2c2; obtain ⟨p0c0, p0c1, p0c2⟩ := st3 p0; obtain ⟨p1c0, p1c1, p1c2, p1c3, p1c4, p1c5⟩ := st6 p1; obtain ⟨p2c0, p2c1, p2c2⟩ := st3 p2)
    | (go_at_call 17; (with_reducible refine (H2.out _).mono ?_); rintro e w3 ⟨rfl, hb⟩; obtain ⟨hB, hzn, hk, r2⟩ := step1 hB hb; replace p0 := hk _ _ _ p0; replace hzp0 := lt_t hzp0 (Nat.le_of_lt hzn); replace p1 := hk _ _ _ p1; replace hzp1 := lt_t hzp1 (Nat.le_of_lt hzn); replace p2 := hk _ _ _ p2; replace hzp2 := lt_t hzp2 (Nat.le_of_lt hzn); have hzr2 := hzn; clear hzn hk hb; clear p0c0 p0c1 p0c2 p1c0 p1c1 p1c2 p1c3 p1c4 p1c5 p2c0 p2c1 p2c2; obtain ⟨p0c0, p0c1, p0c2⟩ := st3 p0; obtain ⟨p1c0, p1c1, p1c2, p1c3, p1c4, p1c5⟩ := st6 p1; obtain ⟨p2c0, p2c1, p2c2⟩ := st3 p2; obtain ⟨r2c0, r2c1, r2c2, r2c3, r2c4, r2c5⟩ := st6 r2)
    | (go_at_call 18; (with_reducible refine (H3.out _).mono ?_); rintro e w4 ⟨rfl, hb⟩; obtain ⟨hB, hzn, hk, r3⟩ := step1 hB hb; replace p0 := hk _ _ _ p0; replace hzp0 := lt_t hzp0 (Nat.le_of_lt hzn); replace p1 := hk _ _ _ p1; replace hzp1 := lt_t hzp1 (Nat.le_of_lt hzn); replace p2 := hk _ _ _ p2; replace hzp2 := lt_t hzp2 (Nat.le_of_lt hzn); replace r2 := hk _ _ _ r2; replace hzr2 := lt_t hzr2 (Nat.le_of_lt hzn); have hzr3 := hzn; clear hzn hk hb; clear p0c0 p0c1 p0c2 p1c0 p1c1 p1c2 p1c3 p1c4 p1c5 p2c0 p2c1 p2c2 r2c0 r2c1 r2c2 r2c3 r2c4 r2c5; obtain ⟨p0c0, p0c1, p0c2⟩ := st3 p0; obtain ⟨p1c0, p1c1, p1c2, p1c3, p1c4, p1c5⟩ := st6 p1; obtain ⟨p2c0, p2c1, p2c2⟩ := st3 p2; obtain ⟨r2c0, r2c1, r2c2, r2c3, r2c4, r2c5⟩ := st6 r2; obtain ⟨r3c0, r3c1, r3c2, r3c3, r3c4, r3c5⟩ := st6 r3)
    | (go_at_call 19; (with_reducible refine (H4.out _).mono ?_); rintro e w5 ⟨rfl, hb⟩; obtain ⟨hB, hzn, hk, r4⟩ := step1 hB hb; replace p0 := hk _ _ _ p0; replace hzp0 := lt_t hzp0 (Nat.le_of_lt hzn); replace p1 := hk _ _ _ p1; replace hzp1 := lt_t hzp1 (Nat.le_of_lt hzn); replace p2 := hk _ _ _ p2; replace hzp2 := lt_t hzp2 (Nat.le_of_lt hzn); replace r2 := hk _ _ _ r2; replace hzr2 := lt_t hzr2 (Nat.le_of_lt hzn); replace r3 := hk _ _ _ r3; replace hzr3 := lt_t hzr3 (Nat.le_of_lt hzn); have hzr4 := hzn; clear hzn hk hb; clear p0c0 p0c1 p0c2 p1c0 p1c1 p1c2 p1c3 p1c4 p1c5 p2c0 p2c1 p2c2 r2c0 r2c1 r2c2 r2c3 r2c4 r2c5 r3c0 r3c1 r3c2 r3c3 r3c4 r3c5; obtain ⟨p0c0, p0c1, p0c2⟩ := st3 p0; obtain ⟨p1c0, p1c1, p1c2, p1c3, p1c4, p1c5⟩ := st6 p1; obtain ⟨p2c0, p2c1, p2c2⟩ := st3 p2; obtain ⟨r2c0, r2c1, r2c2, r2c3, r2c4, r2c5⟩ := st6 r2; obtain ⟨r3c0, r3c1, r3c2, r3c3, r3c4, r3c5⟩ := st6 r3; obtain ⟨r4c0, r4c1, r4c2, r4c3, r4c4, r4c5⟩ := st6 r4))
  go_ret
  exact ⟨rfl, hB.alloc hB.size _⟩
end Go.Proofs.Ytlbnbginippjfaa
