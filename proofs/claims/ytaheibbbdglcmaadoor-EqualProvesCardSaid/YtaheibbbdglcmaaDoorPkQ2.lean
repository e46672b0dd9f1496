import Derived.Test.YtaheibbbdglcmaaDoorPkk
set_option linter.unusedSimpArgs false
set_option linter.unusedVariables false
namespace Go.Proofs.YtaheibbbdglcmaaDoor
open Go.RowKit Go.Shelf Fk Sha
/-! EqualProves: what is proved is right. -/
set_option maxRecDepth 100000 in
theorem power12_any (a n : Int) (w : World) :
    Calls Tryd.prog 25 #[.int .i64 a, .int .i64 n] w fun e w' => e = .returned (.tuple #[.int .i64 (powC a n), .bool (vld a)]) ∧ Below w.heap.size w w' := by
  have hp := fun w => pow_any a n w
  cases hv : vld a with
  | false =>
    rw [show powE a = 90 by unfold powE; rw [hv]; rfl] at hp
    obtain ⟨x, hx⟩ : ∃ x, powC a n = x := ⟨_, rfl⟩
    rw [hx] at hp ⊢
    have HP := Lib.hid hp
    clear hp hx hv
    go_enter Tryd.func25, Tryd.ntmps25
    go_wp2_with (go_at_call 35; (with_reducible refine (HP.out _).mono ?_); rintro e w1 ⟨rfl, hb⟩)
    go_ret2
    exact ⟨rfl, hb⟩
  | true =>
    rw [show powE a = 0 by unfold powE; rw [hv]; rfl] at hp
    have hq := fun w => refvalid_any (powC a n) w
    rw [vld_powC hv n] at hq
    obtain ⟨x, hx⟩ : ∃ x, powC a n = x := ⟨_, rfl⟩
    rw [hx] at hp hq ⊢
    have HP := Lib.hid hp
    have HQ := Lib.hid hq
    clear hp hq hx hv
    go_enter Tryd.func25, Tryd.ntmps25
    go_wp2_with (first
      | (go_at_call 35; (with_reducible refine (HP.out _).mono ?_); rintro e w1 ⟨rfl, hb⟩)
      | (go_at_call 27; (with_reducible refine (HQ.out _).mono ?_); rintro e w2 ⟨rfl, rfl⟩))
    go_ret2
    exact ⟨rfl, hb⟩
set_option maxRecDepth 100000 in
set_option maxHeartbeats 4000000 in
theorem proves_sec (n a o : Int) (w : World) (hT : TabOK w) (h : secB n = false) :
    Calls Tryd.prog 7 #[.int .i64 n, .int .i64 a, .int .i64 o] w fun e w' => e = .returned (.bool true) ∧ Below w.heap.size w w' := by
  have sn := fun W (hb : Below w.heap.size w W) => sane12 W (hT.below hb)
  have p1 := fun W (hb : Below w.heap.size w W) => prove_any n a W (hT.below hb)
  have q1 := fun W => public_any n W
  have v1 := fun W => refvalid_any a W
  have hpo : provOK n a = false := by unfold provOK; rw [h]; rfl
  rw [show provD n a = 0 by unfold provD; rw [hpo]; rfl, show provR n a = default by unfold provR; rw [hpo]; rfl, show provE n a = 110 by unfold provE; rw [h]; rfl, show (default : Pf).val = .agg #[.int .i64 0, .int .i64 0] from rfl] at p1
  rw [show pubE n = 110 by unfold pubE; rw [h]; rfl] at q1
  generalize vld a = va at v1
  have bq : ∀ w, (Op.equalIn 10000 34 (.agg #[.int .i64 0, .int .i64 0]) (.agg #[.int .i64 0, .int .i64 0])).run Tryd.prog w = .ok true w := fun w => by
    have := runP 9998 default default w
    exact this
  obtain ⟨K, hK⟩ : ∃ K, pubC n = K := ⟨_, rfl⟩
  rw [hK] at q1
  have SN := Lib.hid sn
  have P1 := Lib.hid p1
  have Q1 := Lib.hid q1
  have V1 := Lib.hid v1
  clear sn p1 q1 v1 hK hT hpo h
  have hB := Below.refl w.heap.size w
  go_enter Tryd.func7, Tryd.ntmps7
  go_upto_region 4 with (first
    | (go_at_call 18; (with_reducible refine (SN.out _ hB).mono ?_); rintro e w1 ⟨rfl, hb⟩; replace hB := hB.trans (hb.mono hB.size); clear hb)
    | (go_at_call 19; (with_reducible refine (P1.out _ hB).mono ?_); rintro e w2 ⟨rfl, hb⟩; replace hB := hB.trans (hb.mono hB.size); clear hb))
  have r1 := Row.new w2 34 [.int .i64 0, .int .i64 0]
  replace hB := hB.alloc hB.size (.cells #[.int .i64 0, .int .i64 0] 34)
  obtain ⟨W2, hW2⟩ : ∃ W, w2.alloc (.cells #[.int .i64 0, .int .i64 0] 34) = W := ⟨_, rfl⟩
  replace r1 : Row W2 w2.heap.size 34 [.int .i64 0, .int .i64 0] := hW2 ▸ r1
  rw [hW2] at hB ⊢
  clear hW2
  generalize w2.heap.size = g1 at *
  go_upto_region 6 with (go_at_call 26; (with_reducible refine (Q1.out _).mono ?_); rintro e w3 ⟨rfl, hb⟩; replace r1 := r1.below hb r1.lt; replace hB := hB.trans (hb.mono hB.size); clear hb)
  obtain ⟨c0, c1⟩ := st2 r1
  go_wp2_with (go_at_call 27; (with_reducible refine (V1.out _).mono ?_); rintro e w4 ⟨rfl, rfl⟩)
  go_ret
  exact ⟨rfl, hB⟩
set_option maxRecDepth 100000 in
set_option maxHeartbeats 4000000 in
theorem proves_elt (n a o : Int) (w : World) (hT : TabOK w) (h : secB n = true) (hv : vld a = false) :
    Calls Tryd.prog 7 #[.int .i64 n, .int .i64 a, .int .i64 o] w fun e w' => e = .returned (.bool true) ∧ Below w.heap.size w w' := by
  have sn := fun W (hb : Below w.heap.size w W) => sane12 W (hT.below hb)
  have p1 := fun W (hb : Below w.heap.size w W) => prove_any n a W (hT.below hb)
  have q1 := fun W => public_any n W
  have v1 := fun W => refvalid_any a W
  have hpo : provOK n a = false := by unfold provOK; rw [h, hv]; rfl
  rw [show provD n a = 0 by unfold provD; rw [hpo]; rfl, show provR n a = default by unfold provR; rw [hpo]; rfl, show provE n a = 90 by unfold provE; rw [h, hv]; rfl, show (default : Pf).val = .agg #[.int .i64 0, .int .i64 0] from rfl] at p1
  rw [pubE_0 h] at q1
  rw [hv] at v1
  have bq : ∀ w, (Op.equalIn 10000 34 (.agg #[.int .i64 0, .int .i64 0]) (.agg #[.int .i64 0, .int .i64 0])).run Tryd.prog w = .ok true w := fun w => by
    have := runP 9998 default default w
    exact this
  obtain ⟨K, hK⟩ : ∃ K, pubC n = K := ⟨_, rfl⟩
  rw [hK] at q1
  have SN := Lib.hid sn
  have P1 := Lib.hid p1
  have Q1 := Lib.hid q1
  have V1 := Lib.hid v1
  clear sn p1 q1 v1 hK hT hpo h hv
  have hB := Below.refl w.heap.size w
  go_enter Tryd.func7, Tryd.ntmps7
  go_upto_region 4 with (first
    | (go_at_call 18; (with_reducible refine (SN.out _ hB).mono ?_); rintro e w1 ⟨rfl, hb⟩; replace hB := hB.trans (hb.mono hB.size); clear hb)
    | (go_at_call 19; (with_reducible refine (P1.out _ hB).mono ?_); rintro e w2 ⟨rfl, hb⟩; replace hB := hB.trans (hb.mono hB.size); clear hb))
  have r1 := Row.new w2 34 [.int .i64 0, .int .i64 0]
  replace hB := hB.alloc hB.size (.cells #[.int .i64 0, .int .i64 0] 34)
  obtain ⟨W2, hW2⟩ : ∃ W, w2.alloc (.cells #[.int .i64 0, .int .i64 0] 34) = W := ⟨_, rfl⟩
  replace r1 : Row W2 w2.heap.size 34 [.int .i64 0, .int .i64 0] := hW2 ▸ r1
  rw [hW2] at hB ⊢
  clear hW2
  generalize w2.heap.size = g1 at *
  go_upto_region 6 with (go_at_call 26; (with_reducible refine (Q1.out _).mono ?_); rintro e w3 ⟨rfl, hb⟩; replace r1 := r1.below hb r1.lt; replace hB := hB.trans (hb.mono hB.size); clear hb)
  obtain ⟨c0, c1⟩ := st2 r1
  go_wp2_with (go_at_call 27; (with_reducible refine (V1.out _).mono ?_); rintro e w4 ⟨rfl, rfl⟩)
  go_ret
  exact ⟨rfl, hB⟩
set_option maxRecDepth 100000 in
set_option maxHeartbeats 8000000 in
theorem proves_ok (n a o : Int) (w : World) (hT : TabOK w) (h : secB n = true) (hv : vld a = true) :
    Calls Tryd.prog 7 #[.int .i64 n, .int .i64 a, .int .i64 o] w fun e w' => e = .returned (.bool true) ∧ Below w.heap.size w w' := by
  have sn := fun W (hb : Below w.heap.size w W) => sane12 W (hT.below hb)
  have p1 := fun W (hb : Below w.heap.size w W) => prove_any n a W (hT.below hb)
  have q1 := fun W => public_any n W
  have v1 := fun W => refvalid_any o W
  have u1 := fun W => power12_any a n W
  have f1 := fun W => refform_any (powC 4 n) a (powC a n) (provP n a) W
  have k1 := fun W (hb : Below w.heap.size w W) => eqcheck_any (powC 4 n) a (powC a n) (provP n a) W (hT.below hb)
  have m1 := fun W => refcommits_any (powC 4 n) a (powC a n) (provP n a) (prov_form n a).1 W
  have m2 := fun W => refcommits_any (powC 4 n) a o (provP n a) (prov_form n a).1 W
  have hpo : provOK n a = true := by unfold provOK; rw [h, hv]; rfl
  rw [show provD n a = powC a n by unfold provD; rw [hpo]; rfl, show provR n a = provP n a by unfold provR; rw [hpo]; rfl, show provE n a = 0 by unfold provE; rw [h, hv]; rfl] at p1
  rw [pubE_0 h, show pubC n = powC 4 n by unfold pubC; rw [if_pos h]] at q1
  rw [hv] at u1
  rw [prov_right hv] at k1
  have hfm : frm (powC 4 n) a (powC a n) (provP n a) = true := by unfold frm; rw [vld_powC vld_4 n, hv, vld_powC hv n, (prov_form n a).1, (prov_form n a).2]; rfl
  rw [hfm] at f1
  have hne : vld o = true → o ≠ powC a n → (provP n a).e ≠ 0 → comS a (powC a n) (provP n a) ≠ comS a o (provP n a) := fun h1 h2 h3 => other_com hv (vld_powC hv n) h1 (prov_form n a).1 h3 h2
  obtain ⟨P, hP⟩ : ∃ P, provP n a = P := ⟨_, rfl⟩
  rw [hP] at p1 f1 k1 m1 m2 hne
  obtain ⟨X, hX⟩ : ∃ X, powC 4 n = X := ⟨_, rfl⟩
  rw [hX] at q1 f1 k1 m1 m2
  obtain ⟨D, hD⟩ : ∃ D, powC a n = D := ⟨_, rfl⟩
  rw [hD] at p1 u1 f1 k1 m1 hne
  obtain ⟨R, hR⟩ : ∃ R, comR X P = R := ⟨_, rfl⟩
  rw [hR] at m1 m2
  obtain ⟨S1, hS1⟩ : ∃ S, comS a D P = S := ⟨_, rfl⟩
  obtain ⟨S2, hS2⟩ : ∃ S, comS a o P = S := ⟨_, rfl⟩
  rw [hS1] at m1 hne
  rw [hS2] at m2 hne
  unfold Pf.val at p1 f1 k1 m1 m2
  generalize P.e = pe at *
  generalize P.s = ps at *
  obtain ⟨vo, hvo⟩ : ∃ v, vld o = v := ⟨_, rfl⟩
  rw [hvo] at v1 hne
  have SN := Lib.hid sn
  have P1 := Lib.hid p1
  have Q1 := Lib.hid q1
  have V1 := Lib.hid v1
  have U1 := Lib.hid u1
  have F1 := Lib.hid f1
  have K1 := Lib.hid k1
  have M1 := Lib.hid m1
  have M2 := Lib.hid m2
  have NE := Lib.hid hne
  clear sn p1 q1 v1 u1 f1 k1 m1 m2 hne hfm hpo hP hX hD hR hS1 hS2 hvo hT h hv
  have hB := Below.refl w.heap.size w
  go_enter Tryd.func7, Tryd.ntmps7
  go_upto_region 4 with (first
    | (go_at_call 18; (with_reducible refine (SN.out _ hB).mono ?_); rintro e w1 ⟨rfl, hb⟩; replace hB := hB.trans (hb.mono hB.size); clear hb)
    | (go_at_call 19; (with_reducible refine (P1.out _ hB).mono ?_); rintro e w2 ⟨rfl, hb⟩; replace hB := hB.trans (hb.mono hB.size); clear hb))
  have r1 := Row.new w2 34 [.int .i64 pe, .int .i64 ps]
  replace hB := hB.alloc hB.size (.cells #[.int .i64 pe, .int .i64 ps] 34)
  obtain ⟨W2, hW2⟩ : ∃ W, w2.alloc (.cells #[.int .i64 pe, .int .i64 ps] 34) = W := ⟨_, rfl⟩
  replace r1 : Row W2 w2.heap.size 34 [.int .i64 pe, .int .i64 ps] := hW2 ▸ r1
  rw [hW2] at hB ⊢
  clear hW2
  generalize w2.heap.size = g1 at *
  go_upto_region 8 with (first
    | (go_at_call 26; (with_reducible refine (Q1.out _).mono ?_); rintro e w3 ⟨rfl, hb⟩; replace r1 := r1.below hb r1.lt; replace hB := hB.trans (hb.mono hB.size); clear hb)
    | (go_at_call 25; (with_reducible refine (U1.out _).mono ?_); rintro e w4 ⟨rfl, hb⟩; replace r1 := r1.below hb r1.lt; replace hB := hB.trans (hb.mono hB.size); clear hb))
  obtain ⟨c0, c1⟩ := st2 r1
  go_upto_region 10 with (first
    | (go_at_call 23; (with_reducible refine (F1.out _).mono ?_); rintro e w5 ⟨rfl, hb⟩; replace r1 := r1.below hb r1.lt; replace hB := hB.trans (hb.mono hB.size); clear hb c0 c1; obtain ⟨c0, c1⟩ := st2 r1)
    | (go_at_call 21; (with_reducible refine (K1.out _ hB).mono ?_); rintro e w6 ⟨rfl, hb⟩; replace r1 := r1.below hb r1.lt; replace hB := hB.trans (hb.mono hB.size); clear hb c0 c1; obtain ⟨c0, c1⟩ := st2 r1))
  cases vo with
  | false =>
    go_wp2_with (go_at_call 27; (with_reducible refine (V1.out _).mono ?_); rintro e w7 ⟨rfl, rfl⟩)
    go_ret
    exact ⟨rfl, hB⟩
  | true =>
    by_cases e1 : o = D
    · have e1' : (o == D) = true := by simp [e1]
      clear e1
      go_wp2_with (go_at_call 27; (with_reducible refine (V1.out _).mono ?_); rintro e w7 ⟨rfl, rfl⟩)
      go_ret
      exact ⟨rfl, hB⟩
    · have e1' : (o == D) = false := beq_eq_false_iff_ne.2 e1
      by_cases e2 : pe = 0
      · have e2' : (pe == 0) = true := by simp [e2]
        clear e2 e1
        go_wp2_with (go_at_call 27; (with_reducible refine (V1.out _).mono ?_); rintro e w7 ⟨rfl, rfl⟩)
        go_ret
        exact ⟨rfl, hB⟩
      · have e2' : (pe == 0) = false := beq_eq_false_iff_ne.2 e2
        have e3 : (S1 != S2) = true := by rw [bne_iff_ne]; exact NE.out rfl e1 e2
        clear e1 e2 NE
        go_wp2_with (first
          | (go_at_call 27; (with_reducible refine (V1.out _).mono ?_); rintro e w7 ⟨rfl, rfl⟩)
          | (go_at_call 24; (with_reducible refine (M1.out _).mono ?_); rintro e w8 ⟨rfl, hb⟩; replace r1 := r1.below hb r1.lt; replace hB := hB.trans (hb.mono hB.size); clear hb c0 c1; obtain ⟨c0, c1⟩ := st2 r1)
          | (go_at_call 24; (with_reducible refine (M2.out _).mono ?_); rintro e w9 ⟨rfl, hb⟩; replace hB := hB.trans (hb.mono hB.size); clear hb))
        go_ret
        exact ⟨rfl, hB⟩
theorem equalProves_walk (n a o : Int) (w : World) (hT0 : Tab w) (hz0 : 1 < w.heap.size ∧ 0 < w.heap.size) (_ : (Lit.int .i64 n).wf = true) (_ : (Lit.int .i64 a).wf = true) (_ : (Lit.int .i64 o).wf = true) :
    Calls Tryd.prog 7 #[.int .i64 n, .int .i64 a, .int .i64 o] w fun e w' => e = .returned (.bool true) ∧ Below w.heap.size w w' := by
  cases h : secB n with
  | false => exact proves_sec n a o w ⟨hT0, hz0⟩ h
  | true =>
    cases hv : vld a with
    | false => exact proves_elt n a o w ⟨hT0, hz0⟩ h hv
    | true => exact proves_ok n a o w ⟨hT0, hz0⟩ h hv
end Go.Proofs.YtaheibbbdglcmaaDoor
