import Derived.Test.YthckledagggoiaaGreatDoorZSc0
import Derived.Test.YthckledagggoiaaGreatDoorZFs6
import Derived.Deep.LoopGhost
import Derived.Deep.Cut
set_option linter.unusedSimpArgs false
set_option linter.unusedVariables false
namespace Go.Proofs.YthckledagggoiaaGreatDoor
open Go.RowKit Go.Shelf Fk Sha
/-! frankinglaw36.secrets -/
theorem ownO_pub (o0 o1 o2 o3 i : Int) : pubC (ownO o0 o1 o2 o3 i) = ownO (pubC o0) (pubC o1) (pubC o2) (pubC o3) i := by
  unfold ownO
  split
  · rfl
  · split
    · rfl
    · split <;> rfl
def keyQ (q0 q1 q2 q3 : Int) (ol : List Int) : Int := joinC (ol.map (ownO q0 q1 q2 q3))
theorem keyQ_own (o0 o1 o2 o3 : Int) (ol : List Int) : keyQ (pubC o0) (pubC o1) (pubC o2) (pubC o3) ol = keyO o0 o1 o2 o3 ol := by
  unfold keyQ keyO
  congr 1
  apply List.map_congr_left
  intro a _
  exact (ownO_pub o0 o1 o2 o3 a).symm
theorem joinE_Q {o0 o1 o2 o3 : Int} (h : sec4 o0 o1 o2 o3 = true) (ol : List Int) : joinE (ol.map (ownO (pubC o0) (pubC o1) (pubC o2) (pubC o3))) = 0 := by
  rw [← joinE_own h ol]
  congr 1
  apply List.map_congr_left
  intro a _
  exact (ownO_pub o0 o1 o2 o3 a).symm
theorem takeX {l : List Lx} {k : Nat} (h : k < l.length) : l.take (k + 1) = l.take k ++ [l.getD k default] := by
  rw [List.take_add_one, List.getD_eq_getElem?_getD, List.getElem?_eq_getElem h]; rfl
theorem takeIs {l : List Int} {k : Nat} (h : k < l.length) : l.take (k + 1) = l.take k ++ [l.getD k default] := by
  rw [List.take_add_one, List.getD_eq_getElem?_getD, List.getElem?_eq_getElem h]; rfl
theorem offsL_no {l : List Lx} {k : Nat} (h : k < l.length) {j : Nat} (hj : j < (l.getD k default).ol.length) (ho : offOK ((l.getD k default).ol.getD j default) = false) : offsL l = false := by
  unfold offsL
  rw [List.all_eq_false]
  have hm : l.getD k default ∈ l := by
    rw [List.getD_eq_getElem?_getD, List.getElem?_eq_getElem h]; exact List.getElem_mem h
  generalize l.getD k default = x at *
  refine ⟨x, hm, ?_⟩
  · intro hc
    rw [List.all_eq_true] at hc
    have := hc (x.ol.getD j default) (by rw [List.getD_eq_getElem?_getD, List.getElem?_eq_getElem hj]; exact List.getElem_mem hj)
    rw [ho] at this
    cases this
theorem offsL_yes {l : List Lx} (h : ∀ k, k < l.length → ∀ j, j < (l.getD k default).ol.length → offOK ((l.getD k default).ol.getD j default) = true) : offsL l = true := by
  unfold offsL
  rw [List.all_eq_true]
  intro x hx
  rw [List.all_eq_true]
  intro o ho
  obtain ⟨k, hk, rfl⟩ := List.mem_iff_getElem.1 hx
  obtain ⟨j, hj, rfl⟩ := List.mem_iff_getElem.1 ho
  have e : l.getD k default = l[k] := by rw [List.getD_eq_getElem?_getD, List.getElem?_eq_getElem hk]; rfl
  have := h k hk j (by rw [e]; exact hj)
  rw [e] at this
  rw [List.getD_eq_getElem?_getD, List.getElem?_eq_getElem hj] at this
  exact this
theorem own_kept {W W' : World} {base n m : Nat} {e : TypeId} {v : Value} {xs : List Value} (h : W.ownsRow base e m v n xs) (hb : Below W.heap.size W W') : W'.ownsRow base e m v n xs := World.ownsRow.kept h (grown_below' hb none) (Classical.em _)
theorem own_ints {W : World} {B0 : Nat} {v : Value} {l : List Int} {n : Nat} (h : W.ownsRow B0 3 1 v n (l.map (Value.int .i64))) (hn : n = l.length) (hk : l.length ≤ 1000) : SlI W W.heap.size v l := by
  rw [← flatIF] at h
  exact own_slG h (fun _ => rfl) hn (by omega)
/-- where an office's key lies -/
theorem off_at {W : World} {g : Nat} {t : TypeId} {q0 q1 q2 q3 o : Int} (h : Row W g t [.int .i64 q0, .int .i64 q1, .int .i64 q2, .int .i64 q3]) (ho : offOK o = true) : ∃ k : Nat, o = k ∧ (o = 0 ∨ o = 1 ∨ o = 2 ∨ o = 3) ∧ W.cell? ⟨g, k, none⟩ = some (.int .i64 (ownO q0 q1 q2 q3 o)) := by
  unfold offOK at ho
  simp only [Bool.and_eq_true, decide_eq_true_eq] at ho
  have : o = 0 ∨ o = 1 ∨ o = 2 ∨ o = 3 := by omega
  rcases this with rfl | rfl | rfl | rfl
  · exact ⟨0, rfl, by simp, h.cell 0⟩
  · exact ⟨1, rfl, by simp, h.cell 1⟩
  · exact ⟨2, rfl, by simp, h.cell 2⟩
  · exact ⟨3, rfl, by simp, h.cell 3⟩
set_option maxRecDepth 100000 in
set_option maxHeartbeats 16000000 in
theorem secrets_any (l : List Lx) (n : Int) (v : Value) (o0 o1 o2 o3 : Int) (w : World) (h : SlX w w.heap.size v l) (hl : l.length ≤ 100) (hol : ∀ k, k < l.length → (l.getD k default).ol.length ≤ 1000) :
    Calls Tryz.prog 21 #[ttV n v, .agg #[.int .i64 o0, .int .i64 o1, .int .i64 o2, .int .i64 o3]] w
      fun e w' => (∃ u, e = .returned (.tuple #[u, .bool (sec4 o0 o1 o2 o3 && offsL l)]) ∧ ((sec4 o0 o1 o2 o3 && offsL l) = true → SlI w' w'.heap.size u (l.map fun x => keyO o0 o1 o2 o3 x.ol))) ∧ Below w.heap.size w w' := by
  have HS := Lib.hid h
  have HL := Lib.hid hl
  have HOL := Lib.hid hol
  obtain ⟨⟨_, A, c, rfl, _⟩, _⟩ := h
  have x0 : ∀ w : World, (Instr.index 58 (.agg #[.int .i64 o0, .int .i64 o1, .int .i64 o2, .int .i64 o3]) (.int .i64 0)).run Tryz.prog w = .ok (.int .i64 o0) w := fun w => by kernel_rfl
  have x1 : ∀ w : World, (Instr.index 58 (.agg #[.int .i64 o0, .int .i64 o1, .int .i64 o2, .int .i64 o3]) (.int .i64 1)).run Tryz.prog w = .ok (.int .i64 o1) w := fun w => by kernel_rfl
  have x2 : ∀ w : World, (Instr.index 58 (.agg #[.int .i64 o0, .int .i64 o1, .int .i64 o2, .int .i64 o3]) (.int .i64 2)).run Tryz.prog w = .ok (.int .i64 o2) w := fun w => by kernel_rfl
  have x3 : ∀ w : World, (Instr.index 58 (.agg #[.int .i64 o0, .int .i64 o1, .int .i64 o2, .int .i64 o3]) (.int .i64 3)).run Tryz.prog w = .ok (.int .i64 o3) w := fun w => by kernel_rfl
  obtain ⟨R, hR⟩ : ∃ R, (sec4 o0 o1 o2 o3 && offsL l) = R := ⟨_, rfl⟩
  rw [hR]
  have HR := Lib.hid hR
  have y0 := fun W => public_any o0 W
  have y1 := fun W => public_any o1 W
  have y2 := fun W => public_any o2 W
  have y3 := fun W => public_any o3 W
  have z0 : pubE o0 = if secB o0 then 0 else 110 := rfl
  have z1 : pubE o1 = if secB o1 then 0 else 110 := rfl
  have z2 : pubE o2 = if secB o2 then 0 else 110 := rfl
  have z3 : pubE o3 = if secB o3 then 0 else 110 := rfl
  obtain ⟨q0, hq0⟩ : ∃ y, pubC o0 = y := ⟨_, rfl⟩
  obtain ⟨s0, hs0⟩ : ∃ y, secB o0 = y := ⟨_, rfl⟩
  obtain ⟨e0, he0⟩ : ∃ y, pubE o0 = y := ⟨_, rfl⟩
  rw [hq0, he0] at y0
  rw [he0, hs0] at z0
  have Q0 := Lib.hid hq0
  have S0 := Lib.hid hs0
  have Y0 := Lib.hid y0
  obtain ⟨q1, hq1⟩ : ∃ y, pubC o1 = y := ⟨_, rfl⟩
  obtain ⟨s1, hs1⟩ : ∃ y, secB o1 = y := ⟨_, rfl⟩
  obtain ⟨e1, he1⟩ : ∃ y, pubE o1 = y := ⟨_, rfl⟩
  rw [hq1, he1] at y1
  rw [he1, hs1] at z1
  have Q1 := Lib.hid hq1
  have S1 := Lib.hid hs1
  have Y1 := Lib.hid y1
  obtain ⟨q2, hq2⟩ : ∃ y, pubC o2 = y := ⟨_, rfl⟩
  obtain ⟨s2, hs2⟩ : ∃ y, secB o2 = y := ⟨_, rfl⟩
  obtain ⟨e2, he2⟩ : ∃ y, pubE o2 = y := ⟨_, rfl⟩
  rw [hq2, he2] at y2
  rw [he2, hs2] at z2
  have Q2 := Lib.hid hq2
  have S2 := Lib.hid hs2
  have Y2 := Lib.hid y2
  obtain ⟨q3, hq3⟩ : ∃ y, pubC o3 = y := ⟨_, rfl⟩
  obtain ⟨s3, hs3⟩ : ∃ y, secB o3 = y := ⟨_, rfl⟩
  obtain ⟨e3, he3⟩ : ∃ y, pubE o3 = y := ⟨_, rfl⟩
  rw [hq3, he3] at y3
  rw [he3, hs3] at z3
  have Q3 := Lib.hid hq3
  have S3 := Lib.hid hs3
  have Y3 := Lib.hid y3
  have hC := CS.start w n (.slice A l.length c) o0 o1 o2 o3
  clear hR hl hol hq0 he0 y0 hs0 hq1 he1 y1 hs1 hq2 he2 y2 hs2 hq3 he3 y3 hs3
  go_enter Tryz.func21, Tryz.ntmps21
  go_wp2_with fail
  go_loopg [4, 19] 4 (fun gg nv iv wr => ∃ (k : Nat) (p0 p1 p2 p3 : Int), nv = .slice none 0 0 ∧ iv = .int .i64 k ∧ k + gg = 4 ∧ CS w wr n (.slice A l.length c) o0 o1 o2 o3 p0 p1 p2 p3 ∧
    ((k = 0 ∧ p0 = 0 ∧ p1 = 0 ∧ p2 = 0 ∧ p3 = 0) ∨ (k = 1 ∧ s0 = true ∧ q0 = p0 ∧ p1 = 0 ∧ p2 = 0 ∧ p3 = 0) ∨ (k = 2 ∧ (s0 = true ∧ s1 = true) ∧ q0 = p0 ∧ q1 = p1 ∧ p2 = 0 ∧ p3 = 0) ∨ (k = 3 ∧ (s0 = true ∧ s1 = true ∧ s2 = true) ∧ q0 = p0 ∧ q1 = p1 ∧ q2 = p2 ∧ p3 = 0) ∨
      (k = 4 ∧ (s0 = true ∧ s1 = true ∧ s2 = true ∧ s3 = true) ∧ q0 = p0 ∧ q1 = p1 ∧ q2 = p2 ∧ q3 = p3)))
  case atStart => exact ⟨0, 0, 0, 0, 0, rfl, rfl, rfl, hC, .inl ⟨rfl, rfl, rfl, rfl, rfl⟩⟩
  case round =>
    clear hC
    obtain ⟨k, p0, p1, p2, p3, rfl, rfl, hkg, hC, hk⟩ := hrel
    rcases hk with ⟨rfl, rfl, rfl, rfl, rfl⟩ | ⟨rfl, t0, rfl, rfl, rfl, rfl⟩ | ⟨rfl, ⟨t0, t1⟩, rfl, rfl, rfl, rfl⟩ | ⟨rfl, ⟨t0, t1, t2⟩, rfl, rfl, rfl, rfl⟩ | ⟨rfl, ⟨t0, t1, t2, t3⟩, rfl, rfl, rfl, rfl⟩
    · clear x1 Y1 z1 x2 Y2 z2 x3 Y3 z3 
      obtain ⟨⟨a0, a1, a2, a3⟩, ⟨b0, b1, b2, b3⟩, f0, f1, f2, f3⟩ := hC.own
      cases hb : s0 with
      | true =>
        have hb' := Lib.hid hb
        rw [hb, if_pos rfl] at z0
        subst z0
        clear hb
        have HCC := Lib.hid hC
        clear hC
        go_wp2_with (go_at_call 57; (with_reducible refine (Y0.out _).mono ?_); rintro e w1 ⟨rfl, hb⟩; have hC2 := HCC.out.below hb; clear hb a0 a1 a2 a3 b0 b1 b2 b3 f0 f1 f2 f3; obtain ⟨⟨a0, a1, a2, a3⟩, ⟨b0, b1, b2, b3⟩, f0, f1, f2, f3⟩ := hC2.own)
        go_roundg (gk - 1)
        case measure => omega
        case rel => exact ⟨1, q0, 0, 0, 0, rfl, by first | rfl | go_num, by omega, (hC2.set q0).1, .inr (.inl ⟨rfl, hb'.out, rfl, rfl, rfl, rfl⟩)⟩
      | false =>
        rw [hb, if_neg (by simp)] at z0
        subst z0
        have hr : R = false := by rw [← HR.out]; unfold sec4; rw [S0.out, hb]; simp
        have HRR := Lib.hid hr
        clear hb hr
        have HCC := Lib.hid hC
        clear hC
        go_wp2_with (go_at_call 57; (with_reducible refine (Y0.out _).mono ?_); rintro e w1 ⟨rfl, hb⟩; have hC2 := HCC.out.below hb; clear hb a0 a1 a2 a3 b0 b1 b2 b3 f0 f1 f2 f3)
        go_ret2
        exact ⟨⟨_, by rw [HRR.out]; rfl, fun h => by rw [HRR.out] at h; cases h⟩, hC2.bel⟩
    · have T0 := Lib.hid t0
      clear x0 Y0 z0 x2 Y2 z2 x3 Y3 z3 t0
      obtain ⟨⟨a0, a1, a2, a3⟩, ⟨b0, b1, b2, b3⟩, f0, f1, f2, f3⟩ := hC.own
      cases hb : s1 with
      | true =>
        have hb' := Lib.hid hb
        rw [hb, if_pos rfl] at z1
        subst z1
        clear hb
        have HCC := Lib.hid hC
        clear hC
        go_wp2_with (go_at_call 57; (with_reducible refine (Y1.out _).mono ?_); rintro e w1 ⟨rfl, hb⟩; have hC2 := HCC.out.below hb; clear hb a0 a1 a2 a3 b0 b1 b2 b3 f0 f1 f2 f3; obtain ⟨⟨a0, a1, a2, a3⟩, ⟨b0, b1, b2, b3⟩, f0, f1, f2, f3⟩ := hC2.own)
        go_roundg (gk - 1)
        case measure => omega
        case rel => exact ⟨2, q0, q1, 0, 0, rfl, by first | rfl | go_num, by omega, (hC2.set q1).2.1, .inr (.inr (.inl ⟨rfl, ⟨T0.out, hb'.out⟩, rfl, rfl, rfl, rfl⟩))⟩
      | false =>
        rw [hb, if_neg (by simp)] at z1
        subst z1
        have hr : R = false := by rw [← HR.out]; unfold sec4; rw [S1.out, hb]; simp
        have HRR := Lib.hid hr
        clear hb hr
        have HCC := Lib.hid hC
        clear hC
        go_wp2_with (go_at_call 57; (with_reducible refine (Y1.out _).mono ?_); rintro e w1 ⟨rfl, hb⟩; have hC2 := HCC.out.below hb; clear hb a0 a1 a2 a3 b0 b1 b2 b3 f0 f1 f2 f3)
        go_ret2
        exact ⟨⟨_, by rw [HRR.out]; rfl, fun h => by rw [HRR.out] at h; cases h⟩, hC2.bel⟩
    · have T0 := Lib.hid t0
      have T1 := Lib.hid t1
      clear x0 Y0 z0 x1 Y1 z1 x3 Y3 z3 t0 t1
      obtain ⟨⟨a0, a1, a2, a3⟩, ⟨b0, b1, b2, b3⟩, f0, f1, f2, f3⟩ := hC.own
      cases hb : s2 with
      | true =>
        have hb' := Lib.hid hb
        rw [hb, if_pos rfl] at z2
        subst z2
        clear hb
        have HCC := Lib.hid hC
        clear hC
        go_wp2_with (go_at_call 57; (with_reducible refine (Y2.out _).mono ?_); rintro e w1 ⟨rfl, hb⟩; have hC2 := HCC.out.below hb; clear hb a0 a1 a2 a3 b0 b1 b2 b3 f0 f1 f2 f3; obtain ⟨⟨a0, a1, a2, a3⟩, ⟨b0, b1, b2, b3⟩, f0, f1, f2, f3⟩ := hC2.own)
        go_roundg (gk - 1)
        case measure => omega
        case rel => exact ⟨3, q0, q1, q2, 0, rfl, by first | rfl | go_num, by omega, (hC2.set q2).2.2.1, .inr (.inr (.inr (.inl ⟨rfl, ⟨T0.out, T1.out, hb'.out⟩, rfl, rfl, rfl, rfl⟩)))⟩
      | false =>
        rw [hb, if_neg (by simp)] at z2
        subst z2
        have hr : R = false := by rw [← HR.out]; unfold sec4; rw [S2.out, hb]; simp
        have HRR := Lib.hid hr
        clear hb hr
        have HCC := Lib.hid hC
        clear hC
        go_wp2_with (go_at_call 57; (with_reducible refine (Y2.out _).mono ?_); rintro e w1 ⟨rfl, hb⟩; have hC2 := HCC.out.below hb; clear hb a0 a1 a2 a3 b0 b1 b2 b3 f0 f1 f2 f3)
        go_ret2
        exact ⟨⟨_, by rw [HRR.out]; rfl, fun h => by rw [HRR.out] at h; cases h⟩, hC2.bel⟩
    · have T0 := Lib.hid t0
      have T1 := Lib.hid t1
      have T2 := Lib.hid t2
      clear x0 Y0 z0 x1 Y1 z1 x2 Y2 z2 t0 t1 t2
      obtain ⟨⟨a0, a1, a2, a3⟩, ⟨b0, b1, b2, b3⟩, f0, f1, f2, f3⟩ := hC.own
      cases hb : s3 with
      | true =>
        have hb' := Lib.hid hb
        rw [hb, if_pos rfl] at z3
        subst z3
        clear hb
        have HCC := Lib.hid hC
        clear hC
        go_wp2_with (go_at_call 57; (with_reducible refine (Y3.out _).mono ?_); rintro e w1 ⟨rfl, hb⟩; have hC2 := HCC.out.below hb; clear hb a0 a1 a2 a3 b0 b1 b2 b3 f0 f1 f2 f3; obtain ⟨⟨a0, a1, a2, a3⟩, ⟨b0, b1, b2, b3⟩, f0, f1, f2, f3⟩ := hC2.own)
        go_roundg (gk - 1)
        case measure => omega
        case rel => exact ⟨4, q0, q1, q2, q3, rfl, by first | rfl | go_num, by omega, (hC2.set q3).2.2.2, .inr (.inr (.inr (.inr ⟨rfl, ⟨T0.out, T1.out, T2.out, hb'.out⟩, rfl, rfl, rfl, rfl⟩)))⟩
      | false =>
        rw [hb, if_neg (by simp)] at z3
        subst z3
        have hr : R = false := by rw [← HR.out]; unfold sec4; rw [S3.out, hb]; simp
        have HRR := Lib.hid hr
        clear hb hr
        have HCC := Lib.hid hC
        clear hC
        go_wp2_with (go_at_call 57; (with_reducible refine (Y3.out _).mono ?_); rintro e w1 ⟨rfl, hb⟩; have hC2 := HCC.out.below hb; clear hb a0 a1 a2 a3 b0 b1 b2 b3 f0 f1 f2 f3)
        go_ret2
        exact ⟨⟨_, by rw [HRR.out]; rfl, fun h => by rw [HRR.out] at h; cases h⟩, hC2.bel⟩
    · have hsec : sec4 o0 o1 o2 o3 = true := by unfold sec4; rw [S0.out, S1.out, S2.out, S3.out, t0, t1, t2, t3]; rfl
      have HSEC := Lib.hid hsec
      have hRo : R = offsL l := by rw [← HR.out, hsec]; exact Bool.true_and _
      have HRO := Lib.hid hRo
      have KQ := Lib.hid (fun ol => keyQ_own o0 o1 o2 o3 ol)
      have JQ := Lib.hid (fun ol => joinE_Q hsec ol)
      rw [Q0.out, Q1.out, Q2.out, Q3.out] at KQ JQ
      clear hsec hRo Q0 Q1 Q2 Q3 S0 S1 S2 S3 Y0 Y1 Y2 Y3 x0 x1 x2 x3 z0 z1 z2 z3 HR t0 t1 t2 t3 hkg
      obtain ⟨w2, rfl⟩ : ∃ w2 : World, w2 = wr := ⟨_, rfl⟩
      have HCS := Lib.hid hC
      obtain ⟨c0, c1⟩ := hC.tt
      have hlt0 := hC.bel.size
      clear hC
      have i0v : (Tryz.prog.info? 3).map (fun i => (i.zero, i.size, i.bytes)) = some (some (.int .i64 0), 1, 8) := infoInF
      obtain ⟨i0, hi, hz0, hz1, hz2⟩ := info_parts i0v
      clear i0v
      have HI := Lib.hid hi
      have HZ0 := Lib.hid hz0
      have HZ1 := Lib.hid hz1
      have HZ2 := Lib.hid hz2
      clear hi hz0 hz1 hz2
      go_wp2_with fail
      clear c0 c1
      go_loopg [4, 37] l.length (fun gg kv iv wr => ∃ k : Nat, iv = .int .i64 k ∧ k + gg = l.length ∧ Below w2.heap.size w2 wr ∧ wr.ownsRow w2.heap.size 3 1 kv k (((l.take k).map fun x => keyQ q0 q1 q2 q3 x.ol).map (Value.int .i64)) ∧ Hid (∀ q, q < k → ∀ j, j < (l.getD q default).ol.length → offOK ((l.getD q default).ol.getD j default) = true))
      case atStart => exact ⟨0, rfl, by omega, Below.refl _ _, World.ownsRow_nil _ _ _ _, fun q hq => by omega⟩
      case round =>
        obtain ⟨k, rfl, hkg, hBr, hx, HA⟩ := hrel
        obtain ⟨xo, rfl⟩ : ∃ xo : Value, xo = u4 := ⟨_, rfl⟩
        have HX := Lib.hid hx
        clear hx
        have hCr := Lib.hid (HCS.out.below hBr)
        have HB := Lib.hid hBr
        by_cases hlt : k < l.length
        · have hSr := HS.out.below hCr.out.bel
          have hok := hSr.2 k hlt
          obtain ⟨_, A', c', hv, hE⟩ := hSr.1
          obtain ⟨b, off, rfl, hbb, hE⟩ := hE (by omega)
          cases hv
          obtain ⟨d0, d1, d2, d3, d4, d5⟩ := cellsX hE hlt
          have hln := HOL.out k hlt
          have htk := takeX hlt
          have HAk : Hid ((∀ j, j < (l.getD k default).ol.length → offOK ((l.getD k default).ol.getD j default) = true) → ∀ q, q < k + 1 → ∀ j, j < (l.getD q default).ol.length → offOK ((l.getD q default).ol.getD j default) = true) := fun h q hq => by
            by_cases hqk : q = k
            · rw [hqk]; exact h
            · exact HA.out q (by omega)
          have HNo : Hid (∀ j, j < (l.getD k default).ol.length → offOK ((l.getD k default).ol.getD j default) = false → offsL l = false) := fun j hj ho => offsL_no hlt hj ho
          obtain ⟨x, hx⟩ : ∃ x, l.getD k default = x := ⟨_, rfl⟩
          rw [hx] at d0 d1 d2 d3 d4 d5 hok hln htk HAk HNo
          have HTK := Lib.hid htk
          clear hx htk hE hSr hbb
          obtain ⟨ov, gv, cl, rm, rv, pv, ol, gl, rl, pl⟩ := x
          have hoI := hok.1
          obtain ⟨⟨_, a1, c1, u1, _⟩, ⟨_, a2, c2, u2, _⟩, ⟨_, a3, c3, u3, _⟩, ⟨_, a4, c4, u4, _⟩⟩ := hok
          simp only at d0 d1 d2 d3 d4 d5 u1 u2 u3 u4 hln hoI HAk HNo HTK
          subst u1 u2 u3 u4
          have HOI := Lib.hid hoI
          have s1 : (0 : Int) ≤ k := by omega
          have s2 : (k : Int) < l.length := by omega
          clear hoI
          go_wp2_with fail
          have hb3 := below_alloc' wr (.cells #[.slice a1 ol.length c1, .slice a2 gl.length c2, .int .i64 cl, .int .i64 rm, .slice a3 rl.length c3, .slice a4 pl.length c4] 68)
          generalize wr.alloc (.cells #[.slice a1 ol.length c1, .slice a2 gl.length c2, .int .i64 cl, .int .i64 rm, .slice a3 rl.length c3, .slice a4 pl.length c4] 68) = w3 at *
          have HB3 := Lib.hid hb3
          have hsz3 := hb3.size
          have hszr := hBr.size
          clear d0 d1 d2 d3 d4 d5 hb3 hBr
          obtain ⟨G0, rfl⟩ : ∃ G0 : Nat, G0 = gk := ⟨_, rfl⟩
          obtain ⟨wo, rfl⟩ : ∃ wo : World, wo = wr := ⟨_, rfl⟩
          go_loopg [4, 13, 44] ol.length (fun gg nv xv iv wi => ∃ j : Nat, nv = xo ∧ iv = .int .i64 j ∧ j + gg = ol.length ∧ Below w3.heap.size w3 wi ∧ wi.ownsRow w3.heap.size 3 1 xv j (((ol.take j).map (ownO q0 q1 q2 q3)).map (Value.int .i64)) ∧ Hid (∀ q, q < j → offOK (ol.getD q default) = true))
          case atStart => exact ⟨0, rfl, rfl, by omega, Below.refl _ _, World.ownsRow_nil _ _ _ _, fun q hq => by omega⟩
          case round =>
            obtain ⟨j, rfl, rfl, hjg, hBi, hxi, HAi⟩ := hrel
            obtain ⟨yo, rfl⟩ : ∃ yo : Value, yo = u13 := ⟨_, rfl⟩
            have HBI := Lib.hid hBi
            have HXI := Lib.hid hxi
            have hszi := hBi.size
            clear hBi hxi
            have hb2i := HB3.out.trans (HBI.out.mono HB3.out.size)
            have HB2I := Lib.hid hb2i
            clear hb2i
            by_cases hjt : j < ol.length
            · obtain ⟨_, A1, c1', hv1, hE1⟩ := HOI.out.below HB2I.out
              obtain ⟨b1, off1, rfl, hbb1, hE1⟩ := hE1 (by omega)
              cases hv1
              have d := hE1.int hjt
              have htk := takeIs hjt
              have hno := HNo.out j hjt
              have HAn : Hid (offOK (ol.getD j default) = true → ∀ q, q < j + 1 → offOK (ol.getD q default) = true) := fun h q hq => by
                by_cases hqk : q = j
                · rw [hqk]; exact h
                · exact HAi.out q (by omega)
              obtain ⟨o, ho⟩ : ∃ o, ol.getD j default = o := ⟨_, rfl⟩
              rw [ho] at d htk hno HAn
              clear hE1 ho hbb1
              have s3 : (0 : Int) ≤ j := by omega
              have s4 : (j : Int) < ol.length := by omega
              cases hof : offOK o with
              | true =>
                obtain ⟨ko, rfl, hko, hcell⟩ := off_at (hCr.out.below HB2I.out).r2 hof
                have HN1 := Lib.hid (HAn.out hof)
                have g1 : decide ((ko : Int) < 0) = false := decide_eq_false (by omega)
                have g2 : decide (3 < (ko : Int)) = false := decide_eq_false (by omega)
                have s5 : (0 : Int) ≤ ko := by omega
                have s6 : (ko : Int) < 4 := by omega
                have e : ((ol.take (j + 1)).map (ownO q0 q1 q2 q3)).map (Value.int .i64) = ((ol.take j).map (ownO q0 q1 q2 q3)).map (Value.int .i64) ++ [.int .i64 (ownO q0 q1 q2 q3 ko)] := by
                  rw [htk, List.map_append, List.map_append]; rfl
                have EE := Lib.hid e
                obtain ⟨Q, hQ⟩ : ∃ Q, ownO q0 q1 q2 q3 ko = Q := ⟨_, rfl⟩
                rw [hQ] at hcell EE
                clear hof hno HAn htk hko e hQ
                go_wp2_with (at_builtin; (refine wpList_append_own _ rfl _ _ 25 rfl w3.heap.size 3 i0 (.int .i64 0) 1 8 Tryz.underlying25 HI.out HZ0.out HZ1.out HZ2.out rfl (by decide) _ _ _ rfl (HXI.out.alloc _) ⟨wr.heap.size, 0, none⟩ 1 1 [.int .i64 Q] rfl rfl (cells_new wr 3 [.int .i64 Q]) (by simp [Value.oneCell']) (by unfold maxLen; omega) (by omega) (by simp; omega) ?_; intro v' w4 hown' hgrow _))
                go_roundg (gk - 1)
                case measure => omega
                case rel =>
                  refine ⟨j + 1, rfl, by first | rfl | go_num, by omega, (HBI.out.alloc HBI.out.size (.cells #[.int .i64 Q] 3)).grown hgrow (by simp; omega) (fun r e => (HXI.out.lt r e).1), ?_, HN1⟩
                  rw [EE.out]; exact hown'
              | false =>
                have hr : R = false := by rw [HRO.out]; exact hno hof
                have HRR := Lib.hid hr
                have hB9 := (hCr.out.below HB2I.out).bel
                have hor : o < 0 ∨ 3 < o := by unfold offOK at hof; simp only [Bool.and_eq_false_iff, decide_eq_false_iff_not] at hof; omega
                clear hof hno HAn htk hr
                rcases hor with hor | hor
                · have g1 : decide (o < 0) = true := decide_eq_true hor
                  clear hor
                  go_wp2_with fail
                  go_ret2
                  exact ⟨⟨_, by rw [HRR.out]; rfl, fun h => by rw [HRR.out] at h; cases h⟩, hB9⟩
                · have g1 : decide (o < 0) = false := decide_eq_false (by omega)
                  have g2 : decide (3 < o) = true := decide_eq_true hor
                  clear hor
                  go_wp2_with fail
                  go_ret2
                  exact ⟨⟨_, by rw [HRR.out]; rfl, fun h => by rw [HRR.out] at h; cases h⟩, hB9⟩
            · obtain rfl : j = ol.length := by omega
              have hxi := HXI.out
              rw [List.take_length] at hxi
              have hsl := own_ints hxi (by rw [List.length_map]) (by rw [List.length_map]; exact hln)
              have hj := fun (W : World) (B : Nat) (h : SlI W B yo (ol.map (ownO q0 q1 q2 q3))) => join_any _ yo W B h
              have hkx := own_kept HX.out HB2I.out
              have HKX := Lib.hid hkx
              have HN2 := Lib.hid (HAk.out HAi.out)
              rw [JQ.out ol] at hj
              have e : (((l.take (k + 1)).map fun x => keyQ q0 q1 q2 q3 x.ol).map (Value.int .i64)) = (((l.take k).map fun x => keyQ q0 q1 q2 q3 x.ol).map (Value.int .i64)) ++ [.int .i64 (keyQ q0 q1 q2 q3 ol)] := by
                rw [HTK.out, List.map_append, List.map_append]; rfl
              have EE := Lib.hid e
              rw [show joinC (ol.map (ownO q0 q1 q2 q3)) = keyQ q0 q1 q2 q3 ol from rfl] at hj
              obtain ⟨K, hK⟩ : ∃ K, keyQ q0 q1 q2 q3 ol = K := ⟨_, rfl⟩
              rw [hK] at hj EE
              have HJ := Lib.hid hj
              have HSL := Lib.hid hsl
              have hl100 : k + 1 ≤ 101 := by have := HL.out; omega
              have HBW := Lib.hid (HB.out.trans (HB2I.out.mono HB.out.size))
              clear hj hsl hkx hxi e hK
              go_wp2_with (first
                | (go_at_call 58; (with_reducible refine (HJ.out _ _ HSL.out).mono ?_); rintro e w4 ⟨rfl, rfl⟩)
                | (at_builtin; go_loud (refine wpList_append_own _ rfl _ _ 25 rfl w2.heap.size 3 i0 (.int .i64 0) 1 8 Tryz.underlying25 HI.out HZ0.out HZ1.out HZ2.out rfl (by decide) _ _ _ rfl (HKX.out.alloc _) ⟨wr.heap.size, 0, none⟩ 1 1 [.int .i64 K] rfl rfl (cells_new wr 3 [.int .i64 K]) (by simp [Value.oneCell']) (by unfold maxLen; omega) (by omega) (by simp; omega) ?_; intro v' w4 hown' hgrow _)))
              go_roundg (G0 - 1)
              case measure => omega
              case rel =>
                refine ⟨k + 1, by first | rfl | go_num, by omega, (HBW.out.alloc HBW.out.size (.cells #[.int .i64 K] 3)).grown hgrow (by simp; omega) (fun r e => (HKX.out.lt r e).1), ?_, HN2⟩
                rw [EE.out]; exact hown'
        · obtain rfl : k = l.length := by omega
          have hx := HX.out
          rw [List.take_length] at hx
          have hsl := own_ints hx (by rw [List.length_map]) (by rw [List.length_map]; exact Nat.le_trans HL.out (by decide))
          have hr : R = true := by rw [HRO.out]; exact offsL_yes HA.out
          have HSL := Lib.hid hsl
          have HRR := Lib.hid hr
          clear hx hsl hr
          go_wp2_with fail
          go_ret2
          refine ⟨⟨_, by rw [HRR.out]; rfl, fun _ => ?_⟩, hCr.out.bel⟩
          have := HSL.out
          simp only [KQ.out] at this
          exact this

end Go.Proofs.YthckledagggoiaaGreatDoor
