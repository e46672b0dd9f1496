import Derived.Test.YtaheibbbdglcmaaDoorPkQ2
import Derived.Deep.LoopGhost
set_option linter.unusedSimpArgs false
set_option linter.unusedVariables false
namespace Go.Proofs.YtaheibbbdglcmaaDoor
open Go.RowKit Go.Shelf Fk Sha
/-! EqualSound: two answers to one commitment show the exponent. -/
theorem sq_smQ {x : Nat} (h : x < 1073741789) : 0 ≤ (x : Int) * x ∧ (x : Int) * x ≤ 1073741789 * 1073741789 := by
  have m2 : x * x ≤ 1073741789 * 1073741789 := Nat.mul_le_mul (by omega) (by omega)
  have m4 : (x : Int) * x = ((x * x : Nat) : Int) := by simp
  omega
theorem mul_smQ {x y : Int} (h : 0 ≤ x ∧ x < 1073741789) (h' : 0 ≤ y ∧ y < 1073741789) : 0 ≤ x * y ∧ x * y ≤ 1073741789 * 1073741789 :=
  ⟨Int.mul_nonneg (by omega) (by omega), Int.mul_le_mul (by omega) (by omega) (by omega) (by omega)⟩
/-- the two proofs in their blocks -/
theorem made2 (w : World) (v1 v2 : List Value) (t1 t2 : TypeId) :
    ∃ W, ((w.alloc (.cells v1.toArray t1)).alloc (.cells v2.toArray t2)) = W ∧ Below w.heap.size w W ∧ Row W w.heap.size t1 v1 ∧ Row W (w.heap.size + 1) t2 v2 :=
  ⟨_, rfl, ((Below.refl _ _).alloc (Nat.le_refl _) _).alloc (by simp) _, (Row.new w t1 v1).alloc _, row_size (by simp) t2 v2⟩
set_option maxRecDepth 100000 in
set_option maxHeartbeats 4000000 in
theorem sound_few (key a d : Int) (p q : Pf) (w : World) (hT : TabOK w) (h : ¬ (frm key a d p = true ∧ frm key a d q = true ∧ p.e ≠ q.e)) :
    Calls Tryd.prog 6 #[.int .i64 key, .int .i64 a, .int .i64 d, p.val, q.val] w fun e w' => e = .returned (.bool true) ∧ Below w.heap.size w w' := by
  have sn := fun W (hb : Below w.heap.size w W) => sane12 W (hT.below hb)
  have f1 := fun W => refform_any key a d p W
  have f2 := fun W => refform_any key a d q W
  obtain ⟨x, hx⟩ : ∃ x, frm key a d p = x := ⟨_, rfl⟩
  obtain ⟨y, hy⟩ : ∃ y, frm key a d q = y := ⟨_, rfl⟩
  rw [hx] at f1 h
  rw [hy] at f2 h
  clear hx hy
  unfold Pf.val at f1 f2 ⊢
  generalize p.e = pe at *
  generalize p.s = ps at *
  generalize q.e = qe at *
  generalize q.s = qs at *
  have SN := Lib.hid sn
  have F1 := Lib.hid f1
  have F2 := Lib.hid f2
  clear sn f1 f2 hT
  obtain ⟨W, hW, hB, r1, r2⟩ := made2 w [.int .i64 pe, .int .i64 ps] [.int .i64 qe, .int .i64 qs] 34 34
  cases x with
  | false =>
    clear h
    go_enter Tryd.func6, Tryd.ntmps6
    go_upto_region 1 with fail
    clear hW
    go_upto_region 3 with (go_at_call 18; (with_reducible refine (SN.out _ hB).mono ?_); rintro e w1 ⟨rfl, hb⟩; replace r1 := r1.below hb r1.lt; replace r2 := r2.below hb r2.lt; replace hB := hB.trans (hb.mono hB.size); clear hb)
    obtain ⟨c0, c1⟩ := st2 r1
    obtain ⟨d0, d1⟩ := st2 r2
    go_wp2_with (first
      | (go_at_call 23; (with_reducible refine (F1.out _).mono ?_); rintro e w2 ⟨rfl, hb⟩; replace r1 := r1.below hb r1.lt; replace r2 := r2.below hb r2.lt; replace hB := hB.trans (hb.mono hB.size); clear hb c0 c1 d0 d1; obtain ⟨c0, c1⟩ := st2 r1; obtain ⟨d0, d1⟩ := st2 r2)
      | (go_at_call 23; (with_reducible refine (F2.out _).mono ?_); rintro e w3 ⟨rfl, hb⟩; replace r1 := r1.below hb r1.lt; replace r2 := r2.below hb r2.lt; replace hB := hB.trans (hb.mono hB.size); clear hb c0 c1 d0 d1; obtain ⟨c0, c1⟩ := st2 r1; obtain ⟨d0, d1⟩ := st2 r2))
    go_ret
    exact ⟨rfl, hB⟩
  | true =>
    cases y with
    | false =>
      clear h
      go_enter Tryd.func6, Tryd.ntmps6
      go_upto_region 1 with fail
      clear hW
      go_upto_region 3 with (go_at_call 18; (with_reducible refine (SN.out _ hB).mono ?_); rintro e w1 ⟨rfl, hb⟩; replace r1 := r1.below hb r1.lt; replace r2 := r2.below hb r2.lt; replace hB := hB.trans (hb.mono hB.size); clear hb)
      obtain ⟨c0, c1⟩ := st2 r1
      obtain ⟨d0, d1⟩ := st2 r2
      go_wp2_with (first
        | (go_at_call 23; (with_reducible refine (F1.out _).mono ?_); rintro e w2 ⟨rfl, hb⟩; replace r1 := r1.below hb r1.lt; replace r2 := r2.below hb r2.lt; replace hB := hB.trans (hb.mono hB.size); clear hb c0 c1 d0 d1; obtain ⟨c0, c1⟩ := st2 r1; obtain ⟨d0, d1⟩ := st2 r2)
        | (go_at_call 23; (with_reducible refine (F2.out _).mono ?_); rintro e w3 ⟨rfl, hb⟩; replace r1 := r1.below hb r1.lt; replace r2 := r2.below hb r2.lt; replace hB := hB.trans (hb.mono hB.size); clear hb c0 c1 d0 d1; obtain ⟨c0, c1⟩ := st2 r1; obtain ⟨d0, d1⟩ := st2 r2))
      go_ret
      exact ⟨rfl, hB⟩
    | true =>
      obtain rfl : pe = qe := Classical.byContradiction fun e => h ⟨rfl, rfl, e⟩
      clear h
      go_enter Tryd.func6, Tryd.ntmps6
      go_upto_region 1 with fail
      clear hW
      go_upto_region 3 with (go_at_call 18; (with_reducible refine (SN.out _ hB).mono ?_); rintro e w1 ⟨rfl, hb⟩; replace r1 := r1.below hb r1.lt; replace r2 := r2.below hb r2.lt; replace hB := hB.trans (hb.mono hB.size); clear hb)
      obtain ⟨c0, c1⟩ := st2 r1
      obtain ⟨d0, d1⟩ := st2 r2
      go_wp2_with (first
        | (go_at_call 23; (with_reducible refine (F1.out _).mono ?_); rintro e w2 ⟨rfl, hb⟩; replace r1 := r1.below hb r1.lt; replace r2 := r2.below hb r2.lt; replace hB := hB.trans (hb.mono hB.size); clear hb c0 c1 d0 d1; obtain ⟨c0, c1⟩ := st2 r1; obtain ⟨d0, d1⟩ := st2 r2)
        | (go_at_call 23; (with_reducible refine (F2.out _).mono ?_); rintro e w3 ⟨rfl, hb⟩; replace r1 := r1.below hb r1.lt; replace r2 := r2.below hb r2.lt; replace hB := hB.trans (hb.mono hB.size); clear hb c0 c1 d0 d1; obtain ⟨c0, c1⟩ := st2 r1; obtain ⟨d0, d1⟩ := st2 r2))
      go_ret
      exact ⟨rfl, hB⟩
set_option maxRecDepth 100000 in
set_option maxHeartbeats 8000000 in
theorem sound_main (key a d : Int) (p q : Pf) (w : World) (hT : TabOK w) (hfp : frm key a d p = true) (hfq : frm key a d q = true) (hne : p.e ≠ q.e) :
    Calls Tryd.prog 6 #[.int .i64 key, .int .i64 a, .int .i64 d, p.val, q.val] w fun e w' => e = .returned (.bool true) ∧ Below w.heap.size w w' := by
  have sn := fun W (hb : Below w.heap.size w W) => sane12 W (hT.below hb)
  have f1 := fun W => refform_any key a d p W
  have f2 := fun W => refform_any key a d q W
  have hfp0 := hfp
  have hfq0 := hfq
  unfold frm at hfp0 hfq0
  simp only [Bool.and_eq_true] at hfp0 hfq0
  obtain ⟨⟨hvk, hva, hvd⟩, hpe, hps⟩ := hfp0
  obtain ⟨_, hqe, hqs⟩ := hfq0
  have m1 := fun W => refcommits_any key a d p hpe W
  have m2 := fun W => refcommits_any key a d q hqe W
  have u1 := fun x W => power12_any 4 x W
  have u2 := fun x W => power12_any a x W
  rw [vld_4] at u1
  rw [hva] at u2
  rw [hfp] at f1
  rw [hfq] at f2
  rw [inO_iff] at hpe hps hqe hqs
  have key1 : comR key p = comR key q → ∀ x : Int, x % 1073741789 = ((p.s - q.s) * invQ ((p.e - q.e + 1073741789) % 1073741789)) % 1073741789 → powC 4 x = key := fun h x hx =>
    sound_one vld_4 hvk h (by omega) (n := (p.e - q.e + 1073741789) % 1073741789) (by omega) hx
  have key2 : comS a d p = comS a d q → ∀ x : Int, x % 1073741789 = ((p.s - q.s) * invQ ((p.e - q.e + 1073741789) % 1073741789)) % 1073741789 → powC a x = d := fun h x hx =>
    sound_one hva hvd h (by omega) (n := (p.e - q.e + 1073741789) % 1073741789) (by omega) hx
  obtain ⟨R1, hR1⟩ : ∃ R, comR key p = R := ⟨_, rfl⟩
  obtain ⟨R2, hR2⟩ : ∃ R, comR key q = R := ⟨_, rfl⟩
  obtain ⟨S1, hS1⟩ : ∃ R, comS a d p = R := ⟨_, rfl⟩
  obtain ⟨S2, hS2⟩ : ∃ R, comS a d q = R := ⟨_, rfl⟩
  rw [hR1, hS1] at m1
  rw [hR2, hS2] at m2
  rw [hR1, hR2] at key1
  rw [hS1, hS2] at key2
  unfold Pf.val at m1 m2
  unfold Pf.val at f1 f2 ⊢
  generalize p.e = pe at *
  generalize p.s = ps at *
  generalize q.e = qe at *
  generalize q.s = qs at *
  have hq1 : (pe == qe) = false := beq_eq_false_iff_ne.2 hne
  have SN := Lib.hid sn
  have F1 := Lib.hid f1
  have F2 := Lib.hid f2
  have M1 := Lib.hid m1
  have M2 := Lib.hid m2
  have U1 := Lib.hid u1
  have U2 := Lib.hid u2
  have K1 := Lib.hid key1
  have K2 := Lib.hid key2
  clear sn f1 f2 m1 m2 u1 u2 key1 key2 hT hfp hfq hR1 hR2 hS1 hS2 hvk hva hvd
  obtain ⟨W, hW, hB, r1, r2⟩ := made2 w [.int .i64 pe, .int .i64 ps] [.int .i64 qe, .int .i64 qs] 34 34
  go_enter Tryd.func6, Tryd.ntmps6
  go_upto_region 1 with fail
  clear hW
  go_upto_region 3 with (go_at_call 18; (with_reducible refine (SN.out _ hB).mono ?_); rintro e w1 ⟨rfl, hb⟩; replace r1 := r1.below hb r1.lt; replace r2 := r2.below hb r2.lt; replace hB := hB.trans (hb.mono hB.size); clear hb)
  obtain ⟨c0, c1⟩ := st2 r1
  obtain ⟨d0, d1⟩ := st2 r2
  go_upto_region 7 with (first
    | (go_at_call 23; (with_reducible refine (F1.out _).mono ?_); rintro e w2 ⟨rfl, hb⟩; replace r1 := r1.below hb r1.lt; replace r2 := r2.below hb r2.lt; replace hB := hB.trans (hb.mono hB.size); clear hb c0 c1 d0 d1; obtain ⟨c0, c1⟩ := st2 r1; obtain ⟨d0, d1⟩ := st2 r2)
    | (go_at_call 23; (with_reducible refine (F2.out _).mono ?_); rintro e w3 ⟨rfl, hb⟩; replace r1 := r1.below hb r1.lt; replace r2 := r2.below hb r2.lt; replace hB := hB.trans (hb.mono hB.size); clear hb c0 c1 d0 d1; obtain ⟨c0, c1⟩ := st2 r1; obtain ⟨d0, d1⟩ := st2 r2)
    | (go_at_call 24; (with_reducible refine (M1.out _).mono ?_); rintro e w4 ⟨rfl, hb⟩; replace r1 := r1.below hb r1.lt; replace r2 := r2.below hb r2.lt; replace hB := hB.trans (hb.mono hB.size); clear hb c0 c1 d0 d1; obtain ⟨c0, c1⟩ := st2 r1; obtain ⟨d0, d1⟩ := st2 r2)
    | (go_at_call 24; (with_reducible refine (M2.out _).mono ?_); rintro e w5 ⟨rfl, hb⟩; replace r1 := r1.below hb r1.lt; replace r2 := r2.below hb r2.lt; replace hB := hB.trans (hb.mono hB.size); clear hb c0 c1 d0 d1; obtain ⟨c0, c1⟩ := st2 r1; obtain ⟨d0, d1⟩ := st2 r2))
  by_cases e1 : R1 = R2
  · by_cases e2 : S1 = S2
    · have e1' : (R1 != R2) = false := by simp [e1]
      have e2' : (S1 != S2) = false := by simp [e2]
      have k1 := K1.out e1
      have k2 := K2.out e2
      have HK1 := Lib.hid k1
      have HK2 := Lib.hid k2
      clear K1 K2 e1 e2 k1 k2
      obtain ⟨nn, hnn, hnl⟩ : ∃ nn : Nat, (pe - qe + 1073741789) % 1073741789 = (nn : Int) ∧ nn < 1073741789 := ⟨((pe - qe + 1073741789) % 1073741789).toNat, by omega, by omega⟩
      have HNN := Lib.hid hnn
      have hinv : invQ ((pe - qe + 1073741789) % 1073741789) = ((nn ^ 1073741787 % 1073741789 : Nat) : Int) := by
        rw [hnn]; unfold invQ
        rw [show ((nn : Int) % 1073741789).toNat = nn by omega]
      have HINV := Lib.hid hinv
      clear hinv
      obtain ⟨m, hm⟩ : ∃ m : Nat, 1073741787 = m := ⟨_, rfl⟩
      have hm' : (1073741787 : Int) = (m : Int) := by omega
      have hml : m < 1073741789 := by omega
      have HM := Lib.hid hm
      go_wp2_with fail
      have htt : 0 ≤ (ps - qs + 1073741789) % 1073741789 ∧ (ps - qs + 1073741789) % 1073741789 < 1073741789 ∧ (ps - qs + 1073741789) % 1073741789 = (ps - qs) % 1073741789 := by omega
      obtain ⟨tt, htq⟩ : ∃ tt, (ps - qs + 1073741789) % 1073741789 = tt := ⟨_, rfl⟩
      rw [htq] at htt
      obtain ⟨ht1, ht2, ht3⟩ := htt
      have HT3 := Lib.hid ht3
      clear ht3
      go_loopg [16, 17, 18] m (fun k c i x wr => w5 = wr ∧ ∃ (x' c' : Nat), x = .int .i64 x' ∧ i = .int .i64 k ∧ c = .int .i64 c' ∧ k < 2147483579 ∧ x' < 1073741789 ∧ c' < 1073741789 ∧ PQ nn m c' x' k)
      case atStart => exact ⟨rfl, nn, 1, by first | rfl | rw [hnn], by first | rw [hm'] | rfl, rfl, by omega, hnl, by omega, PQ.start nn m⟩
      case round =>
        clear hm hnn
        obtain ⟨rfl, x', c', rfl, rfl, rfl, b1, b2, b3, hI⟩ := hrel
        have m1 := mul_smQ (x := (c' : Int)) (y := (x' : Int)) (by omega) (by omega)
        have m2 := sq_smQ b2
        by_cases hk : 0 < gk
        · by_cases ho : gk % 2 = 1
          · have hI2 := PQ.odd hI ho
            have t1 : ((gk : Int) % 2 == 1) = true := by simp; omega
            clear hI ho
            go_wp2
            go_roundg (gk / 2)
            case measure => omega
            case rel => exact ⟨rfl, x' * x' % 1073741789, c' * x' % 1073741789, by go_num, by go_num, by go_num, by omega, Nat.mod_lt _ (by omega), Nat.mod_lt _ (by omega), hI2⟩
          · have hI2 := PQ.even hI ho
            have t1 : ((gk : Int) % 2 == 1) = false := by simp; omega
            clear hI ho
            go_wp2
            go_roundg (gk / 2)
            case measure => omega
            case rel => exact ⟨rfl, x' * x' % 1073741789, c', by go_num, by go_num, rfl, by omega, Nat.mod_lt _ (by omega), by omega, hI2⟩
        · obtain rfl : gk = 0 := by omega
          have hI2 := PQ.done hI b3
          clear hI m1 m2
          have m3 := mul_smQ (x := tt) (y := (c' : Int)) ⟨ht1, ht2⟩ (by omega)
          have hx : (tt * (c' : Int) % 1073741789) % 1073741789 = ((ps - qs) * invQ ((pe - qe + 1073741789) % 1073741789)) % 1073741789 := by
            rw [HINV.out, HM.out, ← hI2, Int.emod_emod_of_dvd _ (Int.dvd_refl _), Int.mul_emod, Int.mul_emod (ps - qs), ← HT3.out]
            rw [Int.emod_eq_of_lt ht1 ht2]
          have u1 := U1.out (tt * (c' : Int) % 1073741789)
          have u2 := U2.out (tt * (c' : Int) % 1073741789)
          rw [HK1.out _ hx] at u1
          rw [HK2.out _ hx] at u2
          have V1 := Lib.hid u1
          have V2 := Lib.hid u2
          clear u1 u2 hx HK1 HK2 HINV HM U1 U2 hI2 HT3
          go_wp2_with (first
            | (go_at_call 25; (with_reducible refine (V1.out _).mono ?_); rintro e w6 ⟨rfl, hb⟩; replace hB := hB.trans (hb.mono hB.size); clear hb)
            | (go_at_call 25; (with_reducible refine (V2.out _).mono ?_); rintro e w7 ⟨rfl, hb⟩; replace hB := hB.trans (hb.mono hB.size); clear hb))
          go_ret
          exact ⟨rfl, hB⟩
    · have e1' : (R1 != R2) = false := by simp [e1]
      have e2' : (S1 != S2) = true := by simp [e2]
      clear e1 e2 K1 K2
      go_wp2_with fail
      go_ret
      exact ⟨rfl, hB⟩
  · have e1' : (R1 != R2) = true := by simp [e1]
    clear e1 K1 K2
    go_wp2_with fail
    go_ret
    exact ⟨rfl, hB⟩
theorem equalSound_walk (key a d : Int) (p q : Pf) (w : World) (hT0 : Tab w) (hz0 : 1 < w.heap.size ∧ 0 < w.heap.size) (_ : (Lit.int .i64 key).wf = true) (_ : (Lit.int .i64 a).wf = true) (_ : (Lit.int .i64 d).wf = true) (_ : True) (_ : True) :
    Calls Tryd.prog 6 #[.int .i64 key, .int .i64 a, .int .i64 d, p.val, q.val] w fun e w' => e = .returned (.bool true) ∧ Below w.heap.size w w' := by
  by_cases h : frm key a d p = true ∧ frm key a d q = true ∧ p.e ≠ q.e
  · exact sound_main key a d p q w ⟨hT0, hz0⟩ h.1 h.2.1 h.2.2
  · exact sound_few key a d p q w ⟨hT0, hz0⟩ h
end Go.Proofs.YtaheibbbdglcmaaDoor
