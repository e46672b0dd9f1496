import Derived.Test.YthckledagggoiaaGreatDoorAr6
set_option linter.unusedSimpArgs false
set_option linter.unusedVariables false
namespace Go.Proofs.YthckledagggoiaaGreatDoor
open Go.RowKit Fk
/-! The reference's homes: Where; Lives. -/
theorem ret_rwhere (tmps : Array Value) (W : World) (g : Nat) (k q o E : Int) (h8 : tmps[8]?.getD undef = .pointer (some ⟨g, 0, none⟩)) (h9 : tmps[9]?.getD undef = .int .i64 E) (hr : Row W g 30 [.int .i64 k, .int .i64 q, .int .i64 o]) :
    (results Tryz.f45 tmps).run Tryz.prog W = .ok (.tuple #[homeV k q o, .int .i64 E]) W := by
  obtain ⟨m0, m1, m2⟩ := st3h hr
  simp [results, Tryz.f45, go_sem, h8, h9, m0, m1, m2]
theorem rw_post {w X : World} {R : Int × Int × Int} {E : Int} (tmps : Array Value) (k q o : Int) (hR : R = (k, q, o)) (h8 : tmps[8]?.getD undef = .pointer (some ⟨w.heap.size, 0, none⟩)) (h9 : tmps[9]?.getD undef = .int .i64 E)
    (hX : Below w.heap.size w X) (hr : Row X w.heap.size 30 [.int .i64 0, .int .i64 0, .int .i64 0]) :
    bodyPost Tryz.prog Tryz.f45 (fun e w' => e = .returned (.tuple #[hv R, .int .i64 E]) ∧ Below w.heap.size w w') .ret { tmps := tmps, defers := [] }
      (((X.setCell ⟨w.heap.size, 0, none⟩ (.int .i64 k)).setCell ⟨w.heap.size, 1, none⟩ (.int .i64 q)).setCell ⟨w.heap.size, 2, none⟩ (.int .i64 o)) := by
  subst hR
  exact bodyPost_ret (ret_rwhere tmps _ w.heap.size k q o E h8 h9 (((hr.store 0 (.int .i64 k)).store 1 (.int .i64 q)).store 2 (.int .i64 o))) rfl ⟨rfl, ((hX.setCell (p := ⟨w.heap.size, 0, none⟩) (by simp) _).setCell (p := ⟨w.heap.size, 1, none⟩) (by simp) _).setCell (p := ⟨w.heap.size, 2, none⟩) (by simp) _⟩
theorem last_at {w : World} {B0 : Nat} {v : Value} {P : List Int} {q : Int} (h : SlI w B0 v P) (hl : P.getLast? = some q) : ∃ b o c k, v = .slice (some ⟨b, o, none⟩) (k + 1) c ∧ P.length = k + 1 ∧ b < B0 ∧ w.cell? ⟨b, o + k, none⟩ = some (.int .i64 q) := by
  have hp : 0 < P.length := by
    cases P with
    | nil => simp at hl
    | cons a r => simp
  obtain ⟨k, hk⟩ : ∃ k, P.length = k + 1 := ⟨P.length - 1, by omega⟩
  obtain ⟨_, A, c, rfl, hE⟩ := h
  obtain ⟨b, o, rfl, hb, hE⟩ := hE hp
  refine ⟨b, o, c, k, by rw [hk], hk, hb, ?_⟩
  have := hE.int (i := k) (by omega)
  rw [this, List.getD_eq_getElem?_getD]
  rw [List.getLast?_eq_getElem?, hk] at hl
  rw [show k + 1 - 1 = k by omega] at hl
  rw [hl]; rfl
theorem optZ_some (o : Option Nat) : decide (0 ≤ optZ o) = o.isSome := by
  cases o with
  | none => rfl
  | some k => exact decide_eq_true (show (0 : Int) ≤ (k : Int) by omega)
set_option maxRecDepth 100000 in
set_option maxHeartbeats 4000000 in
theorem r34where_none (l : List En) (v : Value) (person day time : Int) (w : World) (h : SlE w w.heap.size v l) (hs : openE l person day time ≠ 0) :
    Calls Tryz.prog 45 #[v, .int .i64 person, .int .i64 day, .int .i64 time] w fun e w' => e = .returned (.tuple #[hv (0, 0, 0), .int .i64 (openE l person day time)]) ∧ Below w.heap.size w w' := by
  have hB0 := (Below.refl w.heap.size w).alloc (Nat.le_refl _) (.cells #[.int .i64 0, .int .i64 0, .int .i64 0] 30)
  have hR0 := Row.new w 30 [.int .i64 0, .int .i64 0, .int .i64 0]
  have hst := fun (W : World) (hb : Below w.heap.size w W) => r33stand_any l v day time W ((h.below hb).mono hb.size)
  by_cases hc : stE l day time = 0
  · have e1 : openE l person day time = 1 := by
      cases hi : idB person with
      | true => exact absurd (openE_0 hc hi) hs
      | false => exact openE_1 hc hi
    have hp : person < 0 ∨ ¬ person < 0 ∧ 1048576 < person := by
      by_cases h0 : person < 0
      · exact .inl h0
      · refine .inr ⟨h0, ?_⟩
        by_cases h1 : 1048576 < person
        · exact h1
        · exact absurd (openE_0 hc (by unfold idB; simp only [Bool.and_eq_true, decide_eq_true_eq]; omega)) hs
    rw [e1]
    rw [hc] at hst
    have HST := Lib.hid hst
    have HR0 := Lib.hid hR0
    clear hst hc e1 hs h hR0
    rcases hp with h0 | ⟨h0, h1⟩
    · have f1 : decide (person < 0) = true := decide_eq_true h0
      clear h0
      go_enter Tryz.func45, Tryz.ntmps45
      go_wp2_with (go_at_call 79; (with_reducible refine (HST.out _ hB0).mono ?_); rintro e w1 ⟨⟨xv, rfl, hx⟩, hb1⟩; have hB1 := hB0.trans (hb1.mono hB0.size); have r8 := HR0.out.below hb1 (by simp); obtain ⟨m0, m1, m2⟩ := st3h r8; have ff := fun i => Row.frozen r8 i; obtain ⟨hq1, A1, c1, rfl, hq2⟩ := hx)
      exact rw_post _ 0 0 0 rfl rfl rfl hB1 r8
    · have f1 : decide (person < 0) = false := decide_eq_false h0
      have f2 : decide (1048576 < person) = true := decide_eq_true h1
      clear h0 h1
      go_enter Tryz.func45, Tryz.ntmps45
      go_wp2_with (go_at_call 79; (with_reducible refine (HST.out _ hB0).mono ?_); rintro e w1 ⟨⟨xv, rfl, hx⟩, hb1⟩; have hB1 := hB0.trans (hb1.mono hB0.size); have r8 := HR0.out.below hb1 (by simp); obtain ⟨m0, m1, m2⟩ := st3h r8; have ff := fun i => Row.frozen r8 i; obtain ⟨hq1, A1, c1, rfl, hq2⟩ := hx)
      exact rw_post _ 0 0 0 rfl rfl rfl hB1 r8
  · have e1 : openE l person day time = stE l day time := openE_s hc
    rw [e1]
    obtain ⟨E, hE⟩ : ∃ E, stE l day time = E := ⟨_, rfl⟩
    rw [hE] at hst hc ⊢
    have f1 : (E != 0) = true := bne_iff_ne.2 hc
    have HST := Lib.hid hst
    have HR0 := Lib.hid hR0
    clear hst hc e1 hs h hR0 hE
    go_enter Tryz.func45, Tryz.ntmps45
    go_wp2_with (go_at_call 79; (with_reducible refine (HST.out _ hB0).mono ?_); rintro e w1 ⟨⟨xv, rfl, hx⟩, hb1⟩; have hB1 := hB0.trans (hb1.mono hB0.size); have r8 := HR0.out.below hb1 (by simp); obtain ⟨m0, m1, m2⟩ := st3h r8; have ff := fun i => Row.frozen r8 i; obtain ⟨hq1, A1, c1, rfl, hq2⟩ := hx)
    exact rw_post _ 0 0 0 rfl rfl rfl hB1 r8
set_option maxRecDepth 100000 in
set_option maxHeartbeats 8000000 in
theorem r34where_some (l : List En) (v : Value) (person day time : Int) (w : World) (h : SlE w w.heap.size v l) (hs : openE l person day time = 0) :
    Calls Tryz.prog 45 #[v, .int .i64 person, .int .i64 day, .int .i64 time] w fun e w' => e = .returned (.tuple #[hv (whereH l person day time), .int .i64 0]) ∧ Below w.heap.size w w' := by
  have hB0 := (Below.refl w.heap.size w).alloc (Nat.le_refl _) (.cells #[.int .i64 0, .int .i64 0, .int .i64 0] 30)
  have hR0 := Row.new w 30 [.int .i64 0, .int .i64 0, .int .i64 0]
  have hst := fun (W : World) (hb : Below w.heap.size w W) => r33stand_any l v day time W ((h.below hb).mono hb.size)
  have hc : stE l day time = 0 := by
    by_cases hc : stE l day time = 0
    · exact hc
    · rw [openE_s hc] at hs; exact absurd hs hc
  have hp : 0 ≤ person ∧ person ≤ 1048576 := by
    cases hi : idB person with
    | true => unfold idB at hi; simpa only [Bool.and_eq_true, decide_eq_true_eq] using hi
    | false => rw [openE_1 hc hi] at hs; cases hs
  rw [hc] at hst
  have e0 : whereH l person day time = whereD (deskL (standX l day time)) person (endL (standX l day time) person) := by unfold whereH; rw [if_pos hs]
  have hlen := standX_len l day time
  have hu := fun q i (h : findN (standX l day time) 2 q = some i) => desk_find (l := l) (day := day) (time := time) (.inr rfl) h
  have hu1 := fun q i (h : findN (standX l day time) 1 q = some i) => desk_find (l := l) (day := day) (time := time) (.inl rfl) h
  obtain ⟨X, hX⟩ : ∃ X, standX l day time = X := ⟨_, rfl⟩
  rw [hX] at hst e0 hlen hu hu1
  obtain ⟨⟨qp, qc⟩, hQ⟩ : ∃ Q, endL X person = Q := ⟨_, rfl⟩
  rw [hQ] at e0
  have has := fun (x : Value) (W : World) (hx : SlE W W.heap.size x X) => r34asked_any X x person W hx hlen hu
  rw [hQ] at has
  have hfn := fun (k : Int) (x : Value) (W : World) (hx : SlE W W.heap.size x X) => r34find_any X x k qp W hx (by omega)
  have f1 : decide (person < 0) = false := decide_eq_false (by omega)
  have f2 : decide (1048576 < person) = false := decide_eq_false (by omega)
  have i3 := desk_isSome X 3 qp
  have i4 := desk_isSome X 4 qp
  have i1 := desk_isSome X 1 qp
  have o3 := optZ_some (findN X 3 qp)
  have o4 := optZ_some (findN X 4 qp)
  rw [e0]
  unfold whereD
  simp only [i3, i4, i1]
  have hlk : ∀ i, findN X 1 qp = some i → (deskL X 1 qp).getD zeroE = X.getD i default := fun i hi => by rw [hu1 qp i hi]; rfl
  have HLK := Lib.hid hlk
  have HST := Lib.hid hst
  have HR0 := Lib.hid hR0
  have HAS := Lib.hid has
  have HFN := Lib.hid hfn
  clear hst hc hs h hR0 e0 hu hu1 hX hQ has hfn hp i1 i3 i4 hlk
  cases qc with
  | true =>
    rw [if_pos rfl]
    go_enter Tryz.func45, Tryz.ntmps45
    go_wp2_with (first
      | (go_at_call 79; (with_reducible refine (HST.out _ hB0).mono ?_); rintro e w1 ⟨⟨xv, rfl, hx⟩, hb1⟩; have hB1 := hB0.trans (hb1.mono hB0.size); have r8 := HR0.out.below hb1 (by simp); have HX1 := Lib.hid hx; obtain ⟨hq1, A1, c1, rfl, hq2⟩ := hx; clear hq1 hq2)
      | (go_at_call 101; (with_reducible refine (HAS.out _ _ HX1.out).mono ?_); rintro e w2 ⟨ya, P, rfl, hy, hpl, hpn, hb2⟩; have hB2 := hB1.trans (hb2.mono hB1.size); have r9 := r8.below hb2 r8.lt; obtain ⟨m0, m1, m2⟩ := st3h r9; have ff := fun i => Row.frozen r9 i; clear hy hpl))
    exact rw_post _ 2 person 0 rfl rfl rfl hB2 r9
  | false =>
    rw [if_neg (by decide)]
    obtain ⟨z3, hz3⟩ : ∃ z, optZ (findN X 3 qp) = z := ⟨_, rfl⟩
    obtain ⟨z4, hz4⟩ : ∃ z, optZ (findN X 4 qp) = z := ⟨_, rfl⟩
    obtain ⟨s3, hs3⟩ : ∃ z, (findN X 3 qp).isSome = z := ⟨_, rfl⟩
    obtain ⟨s4, hs4⟩ : ∃ z, (findN X 4 qp).isSome = z := ⟨_, rfl⟩
    rw [hz3, hs3] at o3
    rw [hz4, hs4] at o4
    rw [hs3, hs4]
    have n3 := fun x W hx => by have := HFN.out 3 x W hx; rw [hz3] at this; exact this
    have n4 := fun x W hx => by have := HFN.out 4 x W hx; rw [hz4] at this; exact this
    have HN3 := Lib.hid n3
    have HN4 := Lib.hid n4
    clear n3 n4 hz3 hz4 hs3 hs4
    cases s3 with
    | true =>
      rw [Bool.true_or, if_pos rfl]
      go_enter Tryz.func45, Tryz.ntmps45
      go_wp2_with (first
        | (go_at_call 79; (with_reducible refine (HST.out _ hB0).mono ?_); rintro e w1 ⟨⟨xv, rfl, hx⟩, hb1⟩; have hB1 := hB0.trans (hb1.mono hB0.size); have r8 := HR0.out.below hb1 (by simp); have HX1 := Lib.hid hx; obtain ⟨hq1, A1, c1, rfl, hq2⟩ := hx; clear hq1 hq2)
        | (go_at_call 101; go_loud ((with_reducible refine (HAS.out _ _ HX1.out).mono ?_); rintro e w2 ⟨ya, P, rfl, hy, hpl, hpn, hb2⟩; have hB2 := hB1.trans (hb2.mono hB1.size); have r9 := r8.below hb2 r8.lt; have hX2 := (HX1.out.below hb2).mono hb2.size; have HX2 := Lib.hid hX2; obtain ⟨bP, oP, cP, kP, rfl, hkP, hbP, dP⟩ := last_at hy hpl; have t1 : (((kP + 1 : Nat) : Int)) - 1 = (kP : Int) := (by omega); have t2 : (0 : Int) ≤ (kP : Int) := (by omega); have t3 : (kP : Int) < ((kP + 1 : Nat) : Int) := (by omega); have t4 : ((kP : Int)).toNat = kP := (by omega); have t5 : kP ≤ 2000 := (by omega); clear hX2 hpl hpn hy))
        | (go_at_call 102; (with_reducible refine (HN3.out _ _ HX2.out).mono ?_); rintro e w3 ⟨rfl, hb3⟩; have hB3 := hB2.trans (hb3.mono hB2.size); have r10 := r9.below hb3 r9.lt; have HX3 := Lib.hid ((HX2.out.below hb3).mono hb3.size); obtain ⟨m0, m1, m2⟩ := st3h r10; have ff := fun i => Row.frozen r10 i))
      exact rw_post _ 3 qp 0 rfl rfl rfl hB3 r10
    | false =>
      rw [Bool.false_or]
      cases s4 with
      | true =>
        rw [if_pos rfl]
        go_enter Tryz.func45, Tryz.ntmps45
        go_wp2_with (first
          | (go_at_call 79; (with_reducible refine (HST.out _ hB0).mono ?_); rintro e w1 ⟨⟨xv, rfl, hx⟩, hb1⟩; have hB1 := hB0.trans (hb1.mono hB0.size); have r8 := HR0.out.below hb1 (by simp); have HX1 := Lib.hid hx; obtain ⟨hq1, A1, c1, rfl, hq2⟩ := hx; clear hq1 hq2)
          | (go_at_call 101; go_loud ((with_reducible refine (HAS.out _ _ HX1.out).mono ?_); rintro e w2 ⟨ya, P, rfl, hy, hpl, hpn, hb2⟩; have hB2 := hB1.trans (hb2.mono hB1.size); have r9 := r8.below hb2 r8.lt; have hX2 := (HX1.out.below hb2).mono hb2.size; have HX2 := Lib.hid hX2; obtain ⟨bP, oP, cP, kP, rfl, hkP, hbP, dP⟩ := last_at hy hpl; have t1 : (((kP + 1 : Nat) : Int)) - 1 = (kP : Int) := (by omega); have t2 : (0 : Int) ≤ (kP : Int) := (by omega); have t3 : (kP : Int) < ((kP + 1 : Nat) : Int) := (by omega); have t4 : ((kP : Int)).toNat = kP := (by omega); have t5 : kP ≤ 2000 := (by omega); clear hX2 hpl hpn hy))
          | (go_at_call 102; (with_reducible refine (HN3.out _ _ HX2.out).mono ?_); rintro e w3 ⟨rfl, hb3⟩; have hB3 := hB2.trans (hb3.mono hB2.size); have r10 := r9.below hb3 r9.lt; have HX3 := Lib.hid ((HX2.out.below hb3).mono hb3.size); obtain ⟨m0, m1, m2⟩ := st3h r10; have ff := fun i => Row.frozen r10 i)
          | (go_at_call 102; (with_reducible refine (HN4.out _ _ HX3.out).mono ?_); rintro e w4 ⟨rfl, hb4⟩; have hB4 := hB3.trans (hb4.mono hB3.size); have r11 := r10.below hb4 r10.lt; have HX4 := Lib.hid ((HX3.out.below hb4).mono hb4.size); obtain ⟨m0, m1, m2⟩ := st3h r11; have ff := fun i => Row.frozen r11 i))
        exact rw_post _ 3 qp 0 rfl rfl rfl hB4 r11
      | false =>
        rw [if_neg (by decide)]
        cases hf : findN X 1 qp with
        | none =>
          rw [if_neg (by simp)]
          have n1 := fun x W hx => by have := HFN.out 1 x W hx; rw [hf] at this; exact this
          rw [show optZ (none : Option Nat) = -1 from rfl] at n1
          have HN1 := Lib.hid n1
          clear n1 hf
          go_enter Tryz.func45, Tryz.ntmps45
          go_wp2_with (first
            | (go_at_call 79; (with_reducible refine (HST.out _ hB0).mono ?_); rintro e w1 ⟨⟨xv, rfl, hx⟩, hb1⟩; have hB1 := hB0.trans (hb1.mono hB0.size); have r8 := HR0.out.below hb1 (by simp); have HX1 := Lib.hid hx; obtain ⟨hq1, A1, c1, rfl, hq2⟩ := hx; clear hq1 hq2)
            | (go_at_call 101; go_loud ((with_reducible refine (HAS.out _ _ HX1.out).mono ?_); rintro e w2 ⟨ya, P, rfl, hy, hpl, hpn, hb2⟩; have hB2 := hB1.trans (hb2.mono hB1.size); have r9 := r8.below hb2 r8.lt; have hX2 := (HX1.out.below hb2).mono hb2.size; have HX2 := Lib.hid hX2; obtain ⟨bP, oP, cP, kP, rfl, hkP, hbP, dP⟩ := last_at hy hpl; have t1 : (((kP + 1 : Nat) : Int)) - 1 = (kP : Int) := (by omega); have t2 : (0 : Int) ≤ (kP : Int) := (by omega); have t3 : (kP : Int) < ((kP + 1 : Nat) : Int) := (by omega); have t4 : ((kP : Int)).toNat = kP := (by omega); have t5 : kP ≤ 2000 := (by omega); clear hX2 hpl hpn hy))
            | (go_at_call 102; (with_reducible refine (HN3.out _ _ HX2.out).mono ?_); rintro e w3 ⟨rfl, hb3⟩; have hB3 := hB2.trans (hb3.mono hB2.size); have r10 := r9.below hb3 r9.lt; have HX3 := Lib.hid ((HX2.out.below hb3).mono hb3.size); obtain ⟨m0, m1, m2⟩ := st3h r10; have ff := fun i => Row.frozen r10 i)
            | (go_at_call 102; (with_reducible refine (HN4.out _ _ HX3.out).mono ?_); rintro e w4 ⟨rfl, hb4⟩; have hB4 := hB3.trans (hb4.mono hB3.size); have r11 := r10.below hb4 r10.lt; have HX4 := Lib.hid ((HX3.out.below hb4).mono hb4.size); obtain ⟨m0, m1, m2⟩ := st3h r11; have ff := fun i => Row.frozen r11 i)
            | (go_at_call 102; (with_reducible refine (HN1.out _ _ HX4.out).mono ?_); rintro e w5 ⟨rfl, hb5⟩; have hB5 := hB4.trans (hb5.mono hB4.size); have r12 := r11.below hb5 r11.lt; have HX5 := Lib.hid ((HX4.out.below hb5).mono hb5.size); obtain ⟨m0, m1, m2⟩ := st3h r12; have ff := fun i => Row.frozen r12 i))
          exact rw_post _ 2 qp 0 rfl rfl rfl hB5 r12
        | some i =>
          rw [if_pos (show (some i).isSome = true from rfl), HLK.out i hf]
          obtain ⟨hix, _, _⟩ := findN_is hf
          have n1 := fun x W hx => by have := HFN.out 1 x W hx; rw [hf] at this; exact this
          rw [show optZ (some i) = (i : Int) from rfl] at n1
          have HN1 := Lib.hid n1
          obtain ⟨x, hx⟩ : ∃ x, X.getD i default = x := ⟨_, rfl⟩
          rw [hx]
          have HX := Lib.hid hx
          have s1 : (0 : Int) ≤ i := by omega
          have s2 : (i : Int) < X.length := by omega
          clear n1 hf hx
          go_enter Tryz.func45, Tryz.ntmps45
          go_wp2_with (first
            | (go_at_call 79; (with_reducible refine (HST.out _ hB0).mono ?_); rintro e w1 ⟨⟨xv, rfl, hx⟩, hb1⟩; have hB1 := hB0.trans (hb1.mono hB0.size); have r8 := HR0.out.below hb1 (by simp); have HX1 := Lib.hid hx; obtain ⟨bE, oE, cE, rfl, hbE, hEE⟩ := ent_at hx hix; have ek := hEE i hix; rw [HX.out] at ek; have EK := Lib.hid ek; clear hx hEE ek)
            | (go_at_call 101; go_loud ((with_reducible refine (HAS.out _ _ HX1.out).mono ?_); rintro e w2 ⟨ya, P, rfl, hy, hpl, hpn, hb2⟩; have hB2 := hB1.trans (hb2.mono hB1.size); have r9 := r8.below hb2 r8.lt; have hX2 := (HX1.out.below hb2).mono hb2.size; have HX2 := Lib.hid hX2; obtain ⟨bP, oP, cP, kP, rfl, hkP, hbP, dP⟩ := last_at hy hpl; have t1 : (((kP + 1 : Nat) : Int)) - 1 = (kP : Int) := (by omega); have t2 : (0 : Int) ≤ (kP : Int) := (by omega); have t3 : (kP : Int) < ((kP + 1 : Nat) : Int) := (by omega); have t4 : ((kP : Int)).toNat = kP := (by omega); have t5 : kP ≤ 2000 := (by omega); clear hX2 hpl hpn hy))
            | (go_at_call 102; (with_reducible refine (HN3.out _ _ HX2.out).mono ?_); rintro e w3 ⟨rfl, hb3⟩; have hB3 := hB2.trans (hb3.mono hB2.size); have r10 := r9.below hb3 r9.lt; have HX3 := Lib.hid ((HX2.out.below hb3).mono hb3.size); obtain ⟨m0, m1, m2⟩ := st3h r10; have ff := fun i => Row.frozen r10 i)
            | (go_at_call 102; (with_reducible refine (HN4.out _ _ HX3.out).mono ?_); rintro e w4 ⟨rfl, hb4⟩; have hB4 := hB3.trans (hb4.mono hB3.size); have r11 := r10.below hb4 r10.lt; have HX4 := Lib.hid ((HX3.out.below hb4).mono hb4.size); obtain ⟨m0, m1, m2⟩ := st3h r11; have ff := fun i => Row.frozen r11 i)
            | (go_at_call 102; (with_reducible refine (HN1.out _ _ HX4.out).mono ?_); rintro e w5 ⟨rfl, hb5⟩; have hB5 := hB4.trans (hb5.mono hB4.size); have r12 := r11.below hb5 r11.lt; have HX5 := Lib.hid ((HX4.out.below hb5).mono hb5.size); obtain ⟨m0, m1, m2⟩ := st3h r12; have ff := fun i => Row.frozen r12 i; obtain ⟨d0, d1, d2, d3, d4, d5, d6, d7⟩ := EK.out.below (((hb2.trans (hb3.mono hb2.size)).trans (hb4.mono (Nat.le_trans hb2.size hb3.size))).trans (hb5.mono (Nat.le_trans hb2.size (Nat.le_trans hb3.size hb4.size)))) hbE))
          exact rw_post _ 1 qp x.b rfl rfl rfl hB5 r12
theorem r34where_any (l : List En) (v : Value) (person day time : Int) (w : World) (h : SlE w w.heap.size v l) :
    Calls Tryz.prog 45 #[v, .int .i64 person, .int .i64 day, .int .i64 time] w fun e w' => e = .returned (.tuple #[hv (whereH l person day time), .int .i64 (openE l person day time)]) ∧ Below w.heap.size w w' := by
  by_cases hs : openE l person day time = 0
  · rw [hs]; exact r34where_some l v person day time w h hs
  · have e : whereH l person day time = (0, 0, 0) := by unfold whereH; rw [if_neg hs]
    rw [e]; exact r34where_none l v person day time w h hs
set_option maxRecDepth 100000 in
set_option maxHeartbeats 4000000 in
theorem r35lives_any (l : List En) (v : Value) (p office day time : Int) (w : World) (h : SlE w w.heap.size v l) :
    Calls Tryz.prog 80 #[v, .int .i64 p, .int .i64 office, .int .i64 day, .int .i64 time] w fun e w' => e = .returned (.bool (livB l office day time p)) ∧ Below w.heap.size w w' := by
  have hw := r34where_any l v p day time w h
  have hlv : livB l office day time p = (decide (openE l p day time = 0) && livB l office day time p) := by
    by_cases h0 : openE l p day time = 0
    · rw [decide_eq_true h0, Bool.true_and]
    · have e : whereH l p day time = (0, 0, 0) := by unfold whereH; rw [if_neg h0]
      unfold livB
      rw [e, decide_eq_false h0, Bool.false_and, decide_eq_false]
      simp
  rw [hlv]
  obtain ⟨⟨a, b, c⟩, ht⟩ : ∃ t, whereH l p day time = t := ⟨_, rfl⟩
  obtain ⟨E, hE⟩ : ∃ E, openE l p day time = E := ⟨_, rfl⟩
  have hlb : livB l office day time p = decide (a = 1 ∧ b = p ∧ c = office) := by unfold livB; rw [ht]; simp only [Prod.mk.injEq]
  rw [hlb, hE]
  rw [ht, hE] at hw
  have HW := Lib.hid hw
  clear hw ht hE hlb hlv h
  by_cases hz : E = 0
  · subst hz
    rw [decide_eq_true rfl, Bool.true_and]
    by_cases h1 : a = 1
    · by_cases h2 : b = p
      · by_cases h3 : c = office
        · rw [decide_eq_true ⟨h1, h2, h3⟩]
          subst h1 h2 h3
          go_enter Tryz.func80, Tryz.ntmps80
          go_wp2_with (go_at_call 45; (with_reducible refine HW.out.mono ?_); rintro e w1 ⟨rfl, hb1⟩)
          go_ret
          exact ⟨rfl, hb1.alloc hb1.size _⟩
        · rw [decide_eq_false (fun h => h3 h.2.2)]
          subst h1 h2
          go_enter Tryz.func80, Tryz.ntmps80
          go_wp2_with (go_at_call 45; (with_reducible refine HW.out.mono ?_); rintro e w1 ⟨rfl, hb1⟩)
          go_ret
          exact ⟨rfl, hb1.alloc hb1.size _⟩
      · rw [decide_eq_false (fun h => h2 h.2.1)]
        subst h1
        go_enter Tryz.func80, Tryz.ntmps80
        go_wp2_with (go_at_call 45; (with_reducible refine HW.out.mono ?_); rintro e w1 ⟨rfl, hb1⟩)
        go_ret
        exact ⟨rfl, hb1.alloc hb1.size _⟩
    · rw [decide_eq_false (fun h => h1 h.1)]
      go_enter Tryz.func80, Tryz.ntmps80
      go_wp2_with (go_at_call 45; (with_reducible refine HW.out.mono ?_); rintro e w1 ⟨rfl, hb1⟩)
      go_ret
      exact ⟨rfl, hb1.alloc hb1.size _⟩
  · rw [decide_eq_false hz, Bool.false_and]
    have z : (E == 0) = false := beq_eq_false_iff_ne.2 hz
    clear hz
    go_enter Tryz.func80, Tryz.ntmps80
    go_wp2_with (go_at_call 45; (with_reducible refine HW.out.mono ?_); rintro e w1 ⟨rfl, hb1⟩)
    go_ret
    exact ⟨rfl, hb1.alloc hb1.size _⟩
end Go.Proofs.YthckledagggoiaaGreatDoor
