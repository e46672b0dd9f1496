import Derived.Deep.QuietTactic
import Derived.BigQuiet
import Derived.Test.YtaheibbbdglcmaaDoorPkh
set_option linter.unusedSimpArgs false
set_option linter.unusedVariables false
namespace Go.Proofs.YtaheibbbdglcmaaDoor
open Go.RowKit Go.Shelf Fk Sha
/-! The examples of layer 12 hold. -/
theorem st6' {W : World} {b : Nat} {t : TypeId} {a0 a1 a2 a3 a4 a5 : Value} (h : Row W b t [a0, a1, a2, a3, a4, a5]) : W.cell? ⟨b, 0, none⟩ = some a0 ∧ W.cell? ⟨b, 1, none⟩ = some a1 ∧ W.cell? ⟨b, 2, none⟩ = some a2 ∧ W.cell? ⟨b, 3, none⟩ = some a3 ∧ W.cell? ⟨b, 4, none⟩ = some a4 ∧ W.cell? ⟨b, 5, none⟩ = some a5 :=
  ⟨Row.cell h 0, Row.cell h 1, Row.cell h 2, Row.cell h 3, Row.cell h 4, Row.cell h 5⟩
theorem sane_cells {W : World} {vx : Value} (h : SlS W W.heap.size vx [bareS 2 ltr0]) : ∃ b o c, vx = .slice (some ⟨b, o, none⟩) 1 c ∧ b < W.heap.size ∧ W.cell? ⟨b, o, none⟩ = some (.int .i64 1) ∧ W.cell? ⟨b, o + 1, none⟩ = some (.int .i64 4) ∧ W.cell? ⟨b, o + 2, none⟩ = some (.int .i64 4) ∧ W.cell? ⟨b, o + 3, none⟩ = some (.int .i64 1) := by
  obtain ⟨_, A, c, rfl, hE⟩ := h
  obtain ⟨b, o, rfl, hb, hE⟩ := hE (by decide)
  have e0 : W.cell? ⟨b, o, none⟩ = some (.int .i64 (bareS 2 ltr0).x.a) := hE 0 (by decide) 0 (by omega)
  have e1 : W.cell? ⟨b, o + 1, none⟩ = some (.int .i64 (bareS 2 ltr0).x.b) := hE 0 (by decide) 1 (by omega)
  have e2 : W.cell? ⟨b, o + 2, none⟩ = some (.int .i64 (bareS 2 ltr0).y.a) := hE 0 (by decide) 2 (by omega)
  have e3 : W.cell? ⟨b, o + 3, none⟩ = some (.int .i64 (bareS 2 ltr0).y.b) := hE 0 (by decide) 3 (by omega)
  rw [bare_s0.1] at e0 e1
  rw [bare_s0.2] at e2 e3
  exact ⟨b, o, c, rfl, hb, e0, e1, e2, e3⟩
set_option maxRecDepth 100000 in
set_option maxHeartbeats 8000000 in
theorem sane12 (w : World) (hT : TabOK w) :
    Calls Tryd.prog 18 #[] w fun e w' => e = .returned (.bool true) ∧ Below w.heap.size w w' := by
  have p1 := fun W (hb : Below w.heap.size w W) => prove_any 3 4 W (hT.below hb)
  have p2 := fun W (hb : Below w.heap.size w W) => prove_any 0 4 W (hT.below hb)
  have p3 := fun W (hb : Below w.heap.size w W) => prove_any 1 2 W (hT.below hb)
  rw [prov34.1, prov34.2.1, prov34.2.2] at p1
  rw [prov04.1, prov04.2.1, prov04.2.2, show (default : Pf).val = .agg #[.int .i64 0, .int .i64 0] from rfl] at p2
  rw [prov12.1, prov12.2.1, prov12.2.2, show (default : Pf).val = .agg #[.int .i64 0, .int .i64 0] from rfl] at p3
  have k1 := fun W (hb : Below w.heap.size w W) => eqcheck_any 64 4 64 (provP 3 4) W (hT.below hb)
  have k2 := fun W (hb : Below w.heap.size w W) => eqcheck_any 0 1 1 (provP 3 4) W (hT.below hb)
  have k3 := fun W (hb : Below w.heap.size w W) => eqcheck_any 64 4 2 (provP 3 4) W (hT.below hb)
  rw [chk1] at k1
  rw [chk2] at k2
  rw [chk3] at k3
  have n1 : ∀ W, Below w.heap.size w W → Calls Tryd.prog 28 #[.int .i64 1, .slice none 0 0, .slice none 0 0, .slice none 0 0] W fun e w' => e = .returned (.bool true) ∧ Below W.heap.size W w' := fun W hb => by
    have := checkbare_any 1 [] [] [] none none none 0 0 0 W (hT.below hb) (SlG.nil_ _ _) (SlG.nil_ _ _) (SlG.nil_ _ _)
    rw [cb1] at this
    exact this
  have n2 : ∀ W, Below w.heap.size w W → Calls Tryd.prog 28 #[.int .i64 2, .slice none 0 0, .slice none 0 0, .slice none 0 0] W fun e w' => e = .returned (.bool false) ∧ Below W.heap.size W w' := fun W hb => by
    have := checkbare_any 2 [] [] [] none none none 0 0 0 W (hT.below hb) (SlG.nil_ _ _) (SlG.nil_ _ _) (SlG.nil_ _ _)
    rw [cb2] at this
    exact this
  have q1 : ∀ W, Below w.heap.size w W → Calls Tryd.prog 32 #[.int .i64 2, .slice (some ⟨W.heap.size, 0, none⟩) 1 1] (W.alloc (.cells #[.int .i64 1, .int .i64 4, .int .i64 4, .int .i64 16, .int .i64 16, .int .i64 1] 55)) fun e w' => ∃ vx vp, e = .returned (.tuple #[vx, vp, .int .i64 0]) ∧ SlS w' w'.heap.size vx [bareS 2 ltr0] ∧ SlP w' w'.heap.size vp [proofS 2 ltr0] ∧ Below W.heap.size W w' := fun W hb => by
    have hb2 := hb.alloc hb.size (.cells #[.int .i64 1, .int .i64 4, .int .i64 4, .int .i64 16, .int .i64 16, .int .i64 1] 55)
    refine (bare_any 2 [ltr0] _ 1 _ (hT.below hb2) (new_s1 W ltr0 _ rfl)).mono ?_
    rintro e w' ⟨hb', ⟨h, _⟩ | ⟨_, vx, vp, rfl, h1, h2⟩⟩
    · exact absurd e_main h
    · exact ⟨vx, vp, rfl, h1, h2, (below_alloc' W _).trans (hb'.mono (by simp))⟩
  have q2 : ∀ W, Below w.heap.size w W → Calls Tryd.prog 32 #[.int .i64 2, .slice (some ⟨W.heap.size, 0, none⟩) 1 1] (W.alloc (.cells #[.int .i64 0, .int .i64 0, .int .i64 0, .int .i64 0, .int .i64 0, .int .i64 0] 55)) fun e w' => e = .returned (.tuple #[.slice none 0 0, .slice none 0 0, .int .i64 100]) ∧ Below W.heap.size W w' := fun W hb => by
    have hb2 := hb.alloc hb.size (.cells #[.int .i64 0, .int .i64 0, .int .i64 0, .int .i64 0, .int .i64 0, .int .i64 0] 55)
    refine (bare_any 2 [default] _ 1 _ (hT.below hb2) (new_s1 W default _ rfl)).mono ?_
    rintro e w' ⟨hb', ⟨h, rfl⟩ | ⟨h, _⟩⟩
    · exact ⟨by rw [e_bad], (below_alloc' W _).trans (hb'.mono (by simp))⟩
    · rw [e_bad] at h; cases h
  have q3 : ∀ W, Below w.heap.size w W → Calls Tryd.prog 32 #[.int .i64 2, .slice (some ⟨W.heap.size, 0, none⟩) 65 65] (W.alloc (.cells (cel (fun _ => 0) (6 * 65) 0).toArray 55)) fun e w' => e = .returned (.tuple #[.slice none 0 0, .slice none 0 0, .int .i64 2]) ∧ Below W.heap.size W w' := fun W hb => by
    have hb2 := hb.alloc hb.size (.cells (cel (fun _ => 0) (6 * 65) 0).toArray 55)
    have := bare_any 2 (List.replicate 65 default) (some ⟨W.heap.size, 0, none⟩) 65 _ (hT.below hb2) (by rw [List.length_replicate]; exact new_65 W)
    rw [List.length_replicate] at this
    refine this.mono ?_
    rintro e w' ⟨hb', ⟨h, rfl⟩ | ⟨h, _⟩⟩
    · exact ⟨by rw [e_long], (below_alloc' W _).trans (hb'.mono (by simp))⟩
    · rw [e_long] at h; cases h
  have mk : ∀ W : World, (Instr.makeSlice 46 (.int .i64 65) (.int .i64 65)).run Tryd.prog W = .ok (.slice (some ⟨W.heap.size, 0, none⟩) 65 65) (W.alloc (.cells (cel (fun _ => 0) (6 * 65) 0).toArray 55)) := fun W => run_make_se (fun _ => 0) 65 (by omega) W
  have n3 : ∀ W (vx vp : Value), Below w.heap.size w W → SlS W W.heap.size vx [bareS 2 ltr0] → SlP W W.heap.size vp [proofS 2 ltr0] → Calls Tryd.prog 28 #[.int .i64 16, .slice (some ⟨W.heap.size, 0, none⟩) 1 1, vx, vp] (W.alloc (.cells #[.int .i64 1, .int .i64 4, .int .i64 4, .int .i64 16, .int .i64 16, .int .i64 1] 55)) fun e w' => e = .returned (.bool true) ∧ Below W.heap.size W w' := fun W vx vp hb hx hp => by
    have hb2 := hb.alloc hb.size (.cells #[.int .i64 1, .int .i64 4, .int .i64 4, .int .i64 16, .int .i64 16, .int .i64 1] 55)
    obtain ⟨_, A2, c2, e2, _⟩ := id hx
    obtain ⟨_, A3, c3, e3, _⟩ := id hp
    subst e2 e3
    have := checkbare_any 16 [ltr0] [bareS 2 ltr0] [proofS 2 ltr0] (some ⟨W.heap.size, 0, none⟩) A2 A3 1 c2 c3 _ (hT.below hb2) (new_s1 W ltr0 _ rfl) ((hx.below (below_alloc' W _)).mono (by simp)) ((hp.below (below_alloc' W _)).mono (by simp))
    rw [cb3] at this
    exact this.mono fun e w' ⟨h1, h2⟩ => ⟨h1, (below_alloc' W _).trans (h2.mono (by simp))⟩
  obtain ⟨P, hP⟩ : ∃ P, provP 3 4 = P := ⟨_, rfl⟩
  rw [hP] at p1 k1 k2 k3
  unfold Pf.val at p1 k1 k2 k3
  generalize P.e = pe at *
  generalize P.s = ps at *
  have bq1 : ∀ w, (Op.equalIn 10000 53 (.agg #[.int .i64 1, .int .i64 4]) (.agg #[.int .i64 1, .int .i64 4])).run Tryd.prog w = .ok true w := fun w => by
    have := runC 9998 ⟨1, 4⟩ ⟨1, 4⟩ w
    exact this
  have bq2 : ∀ w, (Op.equalIn 10000 53 (.agg #[.int .i64 4, .int .i64 1]) (.agg #[.int .i64 4, .int .i64 1])).run Tryd.prog w = .ok true w := fun w => by
    have := runC 9998 ⟨4, 1⟩ ⟨4, 1⟩ w
    exact this
  have P1 := Lib.hid p1
  have P2 := Lib.hid p2
  have P3 := Lib.hid p3
  have K1 := Lib.hid k1
  have K2 := Lib.hid k2
  have K3 := Lib.hid k3
  have N1 := Lib.hid n1
  have N2 := Lib.hid n2
  have N3 := Lib.hid n3
  have Q1 := Lib.hid q1
  have Q2 := Lib.hid q2
  have Q3 := Lib.hid q3
  clear p1 p2 p3 k1 k2 k3 n1 n2 n3 q1 q2 q3 hP hT
  have hB := Below.refl w.heap.size w
  go_enter Tryd.func18, Tryd.ntmps18
  go_upto_region 2 with (go_at_call 19; (with_reducible refine (P1.out _ hB).mono ?_); rintro e w1 ⟨rfl, hb⟩; replace hB := hB.trans (hb.mono hB.size); clear hb)
  have r1 := Row.new w1 34 [.int .i64 pe, .int .i64 ps]
  have hB1 := hB.alloc hB.size (.cells #[.int .i64 pe, .int .i64 ps] 34)
  obtain ⟨W1, hW1⟩ : ∃ W1, w1.alloc (.cells #[.int .i64 pe, .int .i64 ps] 34) = W1 := ⟨_, rfl⟩
  replace r1 : Row W1 w1.heap.size 34 [.int .i64 pe, .int .i64 ps] := hW1 ▸ r1
  rw [hW1] at hB1 ⊢
  clear hW1 hB
  generalize w1.heap.size = g1 at *
  go_upto_region 3 with (go_at_call 19; (with_reducible refine (P2.out _ hB1).mono ?_); rintro e w2 ⟨rfl, hb⟩; replace hB1 := hB1.trans (hb.mono hB1.size); replace r1 := r1.below hb r1.lt; clear hb)
  replace hB1 := hB1.alloc hB1.size (.cells #[.int .i64 0, .int .i64 0] 34)
  replace r1 := r1.alloc (.cells #[.int .i64 0, .int .i64 0] 34)
  obtain ⟨W2, hW2⟩ : ∃ W, w2.alloc (.cells #[.int .i64 0, .int .i64 0] 34) = W := ⟨_, rfl⟩
  rw [hW2] at hB1 r1 ⊢
  clear hW2
  generalize w2.heap.size = g2 at *
  go_upto_region 4 with (go_at_call 19; (with_reducible refine (P3.out _ hB1).mono ?_); rintro e w3 ⟨rfl, hb⟩; replace hB1 := hB1.trans (hb.mono hB1.size); replace r1 := r1.below hb r1.lt; clear hb)
  replace hB1 := hB1.alloc hB1.size (.cells #[.int .i64 0, .int .i64 0] 34)
  replace r1 := r1.alloc (.cells #[.int .i64 0, .int .i64 0] 34)
  obtain ⟨W3, hW3⟩ : ∃ W, w3.alloc (.cells #[.int .i64 0, .int .i64 0] 34) = W := ⟨_, rfl⟩
  rw [hW3] at hB1 r1 ⊢
  clear hW3
  generalize w3.heap.size = g3 at *
  go_upto_region 5 with fail
  have rs := Row.new W3 55 [.int .i64 1, .int .i64 4, .int .i64 4, .int .i64 16, .int .i64 16, .int .i64 1]
  replace hB1 := hB1.alloc hB1.size (.cells #[.int .i64 1, .int .i64 4, .int .i64 4, .int .i64 16, .int .i64 16, .int .i64 1] 55)
  replace r1 := r1.alloc (.cells #[.int .i64 1, .int .i64 4, .int .i64 4, .int .i64 16, .int .i64 16, .int .i64 1] 55)
  obtain ⟨W4, hW4⟩ : ∃ W, W3.alloc (.cells #[.int .i64 1, .int .i64 4, .int .i64 4, .int .i64 16, .int .i64 16, .int .i64 1] 55) = W := ⟨_, rfl⟩
  replace rs : Row W4 W3.heap.size 55 [.int .i64 1, .int .i64 4, .int .i64 4, .int .i64 16, .int .i64 16, .int .i64 1] := hW4 ▸ rs
  rw [hW4] at hB1 r1 ⊢
  clear hW4
  generalize W3.heap.size = g4 at *
  obtain ⟨x0, x1, x2, x3, x4, x5⟩ := st6' rs
  go_upto_region 6 with (go_at_call 32; (with_reducible refine (Q1.out _ hB1).mono ?_); rintro e w5 ⟨vx, vp, rfl, hX, hPr, hb⟩; replace hB1 := hB1.trans (hb.mono hB1.size); replace r1 := r1.below hb r1.lt; replace rs := rs.below hb rs.lt; clear hb x0 x1 x2 x3 x4 x5)
  go_upto_region 7 with (go_at_call 32; (with_reducible refine (Q2.out _ hB1).mono ?_); rintro e w6 ⟨rfl, hb⟩; replace hX := (hX.below hb).mono hb.size; replace hPr := (hPr.below hb).mono hb.size; replace hB1 := hB1.trans (hb.mono hB1.size); replace r1 := r1.below hb r1.lt; replace rs := rs.below hb rs.lt; clear hb)
  go_upto_region 8 with (go_at_call 32; (with_reducible refine (Q3.out _ hB1).mono ?_); rintro e w7 ⟨rfl, hb⟩; replace hX := (hX.below hb).mono hb.size; replace hPr := (hPr.below hb).mono hb.size; replace hB1 := hB1.trans (hb.mono hB1.size); replace r1 := r1.below hb r1.lt; replace rs := rs.below hb rs.lt; clear hb)
  obtain ⟨c0, c1⟩ := st2 r1
  go_wp2_with (first
    | (go_at_call 21; (with_reducible refine (K1.out _ hB1).mono ?_); rintro e w8 ⟨rfl, hb⟩; replace hX := (hX.below hb).mono hb.size; replace hPr := (hPr.below hb).mono hb.size; replace hB1 := hB1.trans (hb.mono hB1.size); replace r1 := r1.below hb r1.lt; replace rs := rs.below hb rs.lt; clear hb c0 c1; obtain ⟨c0, c1⟩ := st2 r1)
    | (go_at_call 21; (with_reducible refine (K2.out _ hB1).mono ?_); rintro e w9 ⟨rfl, hb⟩; replace hX := (hX.below hb).mono hb.size; replace hPr := (hPr.below hb).mono hb.size; replace hB1 := hB1.trans (hb.mono hB1.size); replace r1 := r1.below hb r1.lt; replace rs := rs.below hb rs.lt; clear hb c0 c1; obtain ⟨c0, c1⟩ := st2 r1)
    | (go_at_call 21; (with_reducible refine (K3.out _ hB1).mono ?_); rintro e wa ⟨rfl, hb⟩; replace hX := (hX.below hb).mono hb.size; replace hPr := (hPr.below hb).mono hb.size; replace hB1 := hB1.trans (hb.mono hB1.size); replace rs := rs.below hb rs.lt; clear hb c0 c1)
    | (go_at_call 28; (with_reducible refine (N1.out _ hB1).mono ?_); rintro e wb ⟨rfl, hb⟩; replace hX := (hX.below hb).mono hb.size; replace hPr := (hPr.below hb).mono hb.size; replace hB1 := hB1.trans (hb.mono hB1.size); replace rs := rs.below hb rs.lt; clear hb)
    | (go_at_call 28; (with_reducible refine (N2.out _ hB1).mono ?_); rintro e wc ⟨rfl, hb⟩; replace hX := (hX.below hb).mono hb.size; replace hPr := (hPr.below hb).mono hb.size; replace hB1 := hB1.trans (hb.mono hB1.size); replace rs := rs.below hb rs.lt; clear hb; obtain ⟨xb, xo, c, rfl, hxb, x0, x1, x2, x3⟩ := sane_cells hX; obtain ⟨y0, y1, y2, y3, y4, y5⟩ := st6' rs; have HX := Lib.hid hX; have HPR := Lib.hid hPr; clear hX hPr)
    | (go_at_call 28; (with_reducible refine (N3.out _ _ _ hB1 HX.out HPR.out).mono ?_); rintro e wd ⟨rfl, hb⟩))
  go_ret
  exact ⟨rfl, hB1.trans (hb.mono hB1.size)⟩
end Go.Proofs.YtaheibbbdglcmaaDoor

set_option linter.unusedSimpArgs false
set_option linter.unusedVariables false
namespace Go.Proofs.YtaheibbbdglcmaaDoor
open Go.RowKit Fk Sha
/-! The reference's numerals. -/
abbrev ownR (b : Nat) (w : World) (v : Value) (l : List B) : Prop := w.ownsRow b 5 1 v l.length (l.map bv)
theorem own_oneB (W : World) (c : B) (z : Value) (hz : z = bv c) : ownR W.heap.size (W.alloc (.cells #[z] 5)) (.slice (some ⟨W.heap.size, 0, none⟩) 1 1) [c] :=
  ⟨rfl, .inr ⟨W.heap.size, 1, #[z], rfl, Nat.le_refl _, Row.new W _ [z], Nat.le_refl _, by unfold maxLen; omega, rfl, by rw [hz]; rfl⟩⟩
theorem ownR.lower {b b' : Nat} {w : World} {v : Value} {l : List B} (h : ownR b w v l) (hb : b' ≤ b) : ownR b' w v l :=
  ⟨h.1, h.2.imp id (fun ⟨g, cap, cur, e, hg, r⟩ => ⟨g, cap, cur, e, Nat.le_trans hb hg, r⟩)⟩
theorem ownR.below {b : Nat} {w w' : World} {v : Value} {l : List B} (h : ownR b w v l) (hb : Below w.heap.size w w') : ownR b w' v l := World.ownsRow.kept h (grown_below' hb none) (Classical.em _)
theorem ownR.of {b : Nat} {w : World} {v : Value} {l l' : List B} {n : Nat} (h : w.ownsRow b 5 1 v n (l.map bv)) (hl : l = l') (hn : n = l'.length) : ownR b w v l' := by
  subst hl hn; exact h
set_option maxRecDepth 100000 in
set_option maxHeartbeats 2000000 in
theorem refunsigned_any (n : Nat) (hn : n < 4611686018427387904) (w : World) :
    Calls Tryd.prog 105 #[.int .i64 (n : Int)] w fun e w' => e = .returned (.int .u64 ((2 * n : Nat) : Int)) ∧ w' = w := by
  have h0 : decide ((n : Int) ≥ 0) = true := decide_eq_true (by omega)
  have hm : (n : Int) % 18446744073709551616 = n := by omega
  have hm2 : 2 * (n : Int) % 18446744073709551616 = ((2 * n : Nat) : Int) := by omega
  go_enter Tryd.func105, Tryd.ntmps105
  go_wp2_with fail
  go_ret
  exact ⟨congrArg (fun x => Ending.returned (.int .u64 x)) (show (2 * (n : Int)) = ((2 * n : Nat) : Int) by omega), rfl⟩
set_option maxRecDepth 100000 in
set_option maxHeartbeats 2000000 in
theorem refnumeral_any (u : Nat) : u < 9223372036854775808 → ∀ (w : World),
    Calls Tryd.prog 104 #[.int .u64 (u : Int)] w fun e w' => ∃ v, e = .returned v ∧ ownR w.heap.size w' v (numeral u) ∧ Below w.heap.size w w' := by
  induction u using Nat.strongRecOn with
  | _ u ih =>
  intro hu w
  by_cases hlt : u < 128
  · have hd : decide ((u : Int) < 128) = true := decide_eq_true (by omega)
    have hnu := numeral_small hlt
    have HN := Lib.hid hnu
    have HL := Lib.hid hlt
    clear ih hnu
    go_enter Tryd.func104, Tryd.ntmps104
    go_wp2_with fail
    go_ret
    refine ⟨_, rfl, ?_, (Below.refl _ _).alloc (Nat.le_refl _) _⟩
    rw [HN.out]
    exact own_oneB w _ _ (congrArg (Value.int .u8) (by first | exact byte_small HL.out | (rw [ofNat_bn]; omega)))
  · have hd : decide ((u : Int) < 128) = false := decide_eq_false (by omega)
    have hnu := numeral_big hlt
    have hle : (numeral u).length ≤ 9 := numeral_length 8 u (by omega)
    rw [hnu, List.length_cons] at hle
    have hih := fun w => ih (u / 128) (by omega) (by omega) w
    rw [show ((u / 128 : Nat) : Int) = (u : Int) / 128 by omega] at hih
    have HI := Lib.hid hih
    have HN := Lib.hid hnu
    obtain ⟨R, hR⟩ : ∃ R, numeral (u / 128) = R := ⟨_, rfl⟩
    rw [hR] at hle
    have HR := Lib.hid hR
    obtain ⟨c, hc⟩ : ∃ c, BitVec.ofNat 8 (u % 128 + 128) = c := ⟨_, rfl⟩
    have hcv : ((u : Int) % 128 + 128) % 256 = bn c := by rw [← hc, ofNat_bn]; omega
    have hcv2 : (u : Int) % 128 + 128 = bn c := by rw [← hc, ofNat_bn]; omega
    have HC := Lib.hid hc
    clear ih hih hnu hR hc
    have hB0 := below_alloc' w (.cells #[.int .u8 (bn c)] 5)
    have ho := own_oneB w c _ rfl
    have HO := Lib.hid ho
    have hz : w.heap.size ≤ (w.alloc (.cells #[.int .u8 (bn c)] 5)).heap.size := by simp
    clear ho
    go_enter Tryd.func104, Tryd.ntmps104
    go_wp2_with (first
      | (go_at_call 104; (with_reducible refine (HI.out _).mono ?_); rintro e w1 ⟨v1, rfl, ho1, hb1⟩; rw [HR.out] at ho1; have hob := own_slB ho1 rfl (by omega); have HO1 := Lib.hid (ownR.below HO.out hb1); have HB1 := Lib.hid (hB0.trans (hb1.mono hz)); have HOB := Lib.hid hob; clear ho1 hob hb1)
      | (at_builtin; refine wpList_app rfl _ _ rfl w.heap.size _ 1 [c] rfl HO1.out _ rfl R _ HOB.out.1 HOB.out.2 (by omega) HB1.out.size ?_; intro v2 w2 ho2 hg2))
    go_ret
    refine ⟨_, rfl, ownR.of ho2 (by rw [HN.out, HR.out, HC.out]; rfl) (by rw [HN.out, HR.out, List.length_cons]; omega), HB1.out.grown hg2 HB1.out.size (fun r e => (HO1.out.lt r e).1)⟩
end Go.Proofs.YtaheibbbdglcmaaDoor

set_option linter.unusedSimpArgs false
set_option linter.unusedVariables false
namespace Go.Proofs.YtaheibbbdglcmaaDoor
open Go.RowKit Fk Sha
/-! The reference's values: Int, Ints. -/
theorem own_setCell {w : World} {base n m : Nat} {e : TypeId} {v : Value} {vs : List Value} (h : w.ownsRow base e m v n vs) {p : Addr} (hp : p.block < base) (x : Value) : (w.setCell p x).ownsRow base e m v n vs :=
  h.kept (row := some p.block) ⟨rfl, rfl, rfl, by simp [World.setCell], fun j _ hn => Below.heap_setCell _ _ _ j (fun e => hn (by rw [e]))⟩ (.inr (fun e => by have := (h.lt _ e).1; omega))
set_option maxRecDepth 100000 in
set_option maxHeartbeats 2000000 in
theorem refint_any (n : Int) (w : World) :
    Calls Tryd.prog 91 #[.int .i64 n] w fun e w' => e = .returned (intV n) ∧ Below w.heap.size w w' := by
  have r1 := Row.new w 104 [.int .i64 1, .int .i64 n, .string ⟨#[]⟩, .slice none 0 0]
  have hB0 := below_alloc' w (.cells #[.int .i64 1, .int .i64 n, .string ⟨#[]⟩, .slice none 0 0] 104)
  obtain ⟨k0, k1, k2, k3⟩ := st4 r1
  have HB := Lib.hid hB0
  clear r1 hB0
  go_enter Tryd.func91, Tryd.ntmps91
  go_wp2_with fail
  exact bodyPost_ret (v := intV n) (by simp [results, Tryd.results91, go_sem, k0, k1, k2, k3]) rfl ⟨rfl, HB.out⟩
set_option maxRecDepth 100000 in
set_option maxHeartbeats 4000000 in
theorem refints_any (l : List Int) (v : Value) (w : World) (h : SlI w w.heap.size v l) (hl : l.length ≤ 1000) :
    Calls Tryd.prog 75 #[v] w fun e w' => ∃ A c, e = .returned (listV A l.length c) ∧ SlV w' w'.heap.size (.slice A l.length c) l ∧ Below w.heap.size w w' := by
  obtain ⟨i0, hi, hz0, hz1, hz2⟩ := info_parts infoV4
  have HS := Lib.hid h
  obtain ⟨_, A, c, rfl, _⟩ := h
  have r0 := (Row.new w 104 [.int .i64 0, .int .i64 0, .string ⟨#[]⟩, .slice none 0 0]).alloc (.cells #[.int .i64 3, .int .i64 0, .string ⟨#[]⟩, .slice none 0 0] 104)
  have r1 := Row.new (w.alloc (.cells #[.int .i64 0, .int .i64 0, .string ⟨#[]⟩, .slice none 0 0] 104)) 104 [.int .i64 3, .int .i64 0, .string ⟨#[]⟩, .slice none 0 0]
  have hBa := below_alloc' w (.cells #[.int .i64 0, .int .i64 0, .string ⟨#[]⟩, .slice none 0 0] 104)
  have hB0 := hBa.alloc hBa.size (.cells #[.int .i64 3, .int .i64 0, .string ⟨#[]⟩, .slice none 0 0] 104)
  rw [show (w.alloc (.cells #[.int .i64 0, .int .i64 0, .string ⟨#[]⟩, .slice none 0 0] 104)).heap.size = w.heap.size + 1 by simp] at r1
  go_enter Tryd.func75, Tryd.ntmps75
  go_upto_region 2 with fail
  obtain ⟨W2, hW⟩ : ∃ W, (w.alloc (.cells #[.int .i64 0, .int .i64 0, .string ⟨#[]⟩, .slice none 0 0] 104)).alloc (.cells #[.int .i64 3, .int .i64 0, .string ⟨#[]⟩, .slice none 0 0] 104) = W := ⟨_, rfl⟩
  have r3 : Row W2 w.heap.size 104 [.int .i64 0, .int .i64 0, .string ⟨#[]⟩, .slice none 0 0] := hW ▸ r0
  have r2 : Row W2 (w.heap.size + 1) 104 [.int .i64 3, .int .i64 0, .string ⟨#[]⟩, .slice none 0 0] := hW ▸ r1
  have hB2 : Below w.heap.size w W2 := hW ▸ hB0
  have hz : w.heap.size + 2 ≤ W2.heap.size := r2.lt
  rw [hW]
  clear hW r0 r1 hBa hB0
  go_wp2_with fail
  go_loopg [4] l.length (fun gh iv wr => ∃ (k : Nat) (x : Value), iv = .int .i64 k ∧ k + gh = l.length ∧ Below w.heap.size w wr ∧ w.heap.size + 2 ≤ wr.heap.size ∧ Row wr w.heap.size 104 [.int .i64 0, .int .i64 0, .string ⟨#[]⟩, .slice none 0 0] ∧ Row wr (w.heap.size + 1) 104 [.int .i64 3, .int .i64 0, .string ⟨#[]⟩, x] ∧ wr.ownsRow (w.heap.size + 2) 104 4 x k ((l.take k).flatMap encV))
  case atStart => exact ⟨0, _, rfl, by omega, hB2, hz, r3, r2, World.ownsRow_nil _ _ _ _⟩
  case round =>
    clear hB2 r3 r2 hz
    obtain ⟨k, x, rfl, hkg, hBr, hz, hres, hrow, hown⟩ := hrel
    obtain ⟨k0, k1, k2, k3⟩ := st4 hrow
    have y3 := Row.frozen hrow 3
    have hzz := hrow.lt
    by_cases hlt : k < l.length
    · have hS1 := HS.out.below hBr
      obtain ⟨_, A', c', hv, hE⟩ := id hS1
      obtain ⟨b, off, rfl, hbb, hE⟩ := hE (by omega)
      cases hv
      have d1 := hE.int hlt
      have hsn := take_flatV hlt
      obtain ⟨n, hn⟩ : ∃ n, l.getD k default = n := ⟨_, rfl⟩
      rw [hn] at d1 hsn
      have HSN := Lib.hid hsn
      have HRES := Lib.hid hres
      have HOWN := Lib.hid hown
      have s1 : (0 : Int) ≤ k := by omega
      have s2 : (k : Int) < l.length := by omega
      have hbz : b < wr.heap.size := by omega
      clear hn hsn hE hS1 hown hres
      go_upto_region 5 with fail
      refine wp_region_ordT 9 [(1, 0), (1, 1), (1, 2), (1, 3), (1, 4), (1, 5), (2, 6), (2, 7), (2, 8)] (fun w' => w'.cell? ⟨w.heap.size + 1, 3, none⟩ = some x ∧ w'.cell? ⟨b, off + k, none⟩ = some (.int .i64 n)) (by kernel_rfl) (by kernel_rfl) (fun _ _ d _ _ h => by cases d <;> exact h) ⟨k3, d1⟩ ?_
      have HRES1 := Lib.hid (show Row wr.drew w.heap.size 104 [.int .i64 0, .int .i64 0, .string ⟨#[]⟩, .slice none 0 0] from HRES.out)
      have hB1 : Below w.heap.size w wr.drew := hBr.drew
      have hr1 : Row wr.drew (w.heap.size + 1) 104 [.int .i64 3, .int .i64 0, .string ⟨#[]⟩, x] := hrow
      have HOWN1 := Lib.hid (show wr.drew.ownsRow (w.heap.size + 2) 104 4 x k ((l.take k).flatMap encV) from HOWN.out.kept (grown_below' (Below.refl _ _).drew none) (Classical.em _))
      have hd1 : wr.drew.cell? ⟨b, off + k, none⟩ = some (.int .i64 n) := d1
      have hz1 : w.heap.size + 2 ≤ wr.drew.heap.size := hz
      have hbz1 : b < wr.drew.heap.size := hbz
      clear k0 k1 k2 k3 y3 hzz hrow HRES HOWN d1 hz hbz hBr
      generalize wr.drew = W1 at *
      iterate 6
        refine wpOrd_take (v := ?_) rfl (by rfl) (fun w hSw => ?_) ?_
        rotate_left 1
        · obtain ⟨k3, d1⟩ := hSw
          go_simp
          with_reducible rfl
        simp only [Act.put, List.setIfInBounds_toArray, List.set_cons_zero, List.set_cons_succ]
      refine wpOrd_step rfl (fun K hK => ⟨by rfl, ?_⟩)
      go_simp
      go_at_call 91
      refine (refint_any _ _).mono ?_
      rintro e w3 ⟨rfl, hb⟩
      have hr3 := hr1.below hb hr1.lt
      have hd3 : w3.cell? ⟨b, off + k, none⟩ = some (.int .i64 n) := (hb.cell hbz1).trans hd1
      have hB3 := hB1.trans (hb.mono hB1.size)
      have HOWN3 := Lib.hid (HOWN1.out.kept (grown_below' hb none) (Classical.em _))
      have HRES3 := Lib.hid (HRES1.out.below hb HRES1.out.lt)
      have hz3 := Nat.le_trans hz1 hb.size
      have hbz3 := Nat.lt_of_lt_of_le hbz1 hb.size
      refine hK _ _ ⟨(st4 hr3).2.2.2, hd3⟩ ?_
      clear hK K hr1 hd1 hB1 HOWN1 HRES1 hz1 hbz1 hb
      try simp only [Act.put, List.setIfInBounds_toArray, List.set_cons_zero, List.set_cons_succ]
      refine wpOrd_step rfl (fun K hK => ⟨by rfl, ?_⟩)
      go_simp
      refine hK _ _ ⟨(st4 (hr3.alloc _)).2.2.2, (World.cell?_alloc_past _ _ _ hbz3).trans hd3⟩ ?_
      clear hK K
      try simp only [Act.put, List.setIfInBounds_toArray, List.set_cons_zero, List.set_cons_succ]
      refine wpOrd_step rfl (fun K hK => ⟨by rfl, ?_⟩)
      refine wp_append_lies _ _ _ 102 rfl (w.heap.size + 2) 104 i0 (.agg #[.int .i64 0, .int .i64 0, .string ⟨#[]⟩, .slice none 0 0]) 4 56 Tryd.underlying102 hi hz0 hz1 hz2 rfl (by decide) _ _ _ rfl (HOWN3.out.alloc _) ⟨w3.heap.size, 0, none⟩ 1 1 [.int .i64 1, .int .i64 n, .string ⟨#[]⟩, .slice none 0 0] rfl rfl (cell_four _ _ _ _ _ _) (by simp [Value.oneCell']) (by decide) (by unfold maxLen; omega) (by omega) (by simp; omega) _ rfl ?_
      intro g cap w4 hown4 hgrow hat hlt4
      have hr4 : Row w4 (w.heap.size + 1) 104 [.int .i64 3, .int .i64 0, .string ⟨#[]⟩, x] := Row.keep (hr3.alloc _) (hgrow.block _ (by simp; omega) (fun e => by have := (HOWN3.out.lt _ e.symm).1; omega))
      have hd4 : w4.cell? ⟨b, off + k, none⟩ = some (.int .i64 n) := by
        rw [hgrow.cell_far _ (by simp; omega) (fun e => by have := (HOWN3.out.lt _ e.symm).1; simp only at this; omega)]
        exact (World.cell?_alloc_past _ _ _ hbz3).trans hd3
      refine hK _ _ ⟨(st4 hr4).2.2.2, hd4⟩ ?_
      clear hK K
      try simp only [Act.put, List.setIfInBounds_toArray, List.set_cons_zero, List.set_cons_succ]
      refine wpOrd_nil ?_
      simp only [List.drop_succ_cons, List.drop_zero]
      obtain ⟨k0, k1, k2, k3⟩ := st4 hr4
      have y3 := Row.frozen hr4 3
      have hzz := hr4.lt
      have HOWN4 := Lib.hid hown4
      have HRES4 := Lib.hid (Row.keep (HRES3.out.alloc (.cells #[.int .i64 1, .int .i64 n, .string ⟨#[]⟩, .slice none 0 0] 104)) (hgrow.block _ (by simp; omega) (fun e => by have := (HOWN3.out.lt _ e.symm).1; omega)))
      have HB4 := Lib.hid ((hB3.alloc hB3.size (.cells #[.int .i64 1, .int .i64 n, .string ⟨#[]⟩, .slice none 0 0] 104)).grown hgrow (by simp; omega) (fun r e => by have := (HOWN3.out.lt _ e).1; omega))
      have HR4 := Lib.hid hr4
      clear hr3 hd3 hB3 HOWN3 HRES3 hz3 hbz3 hgrow hat hlt4 hr4 hd4 hown4
      go_wp2_with fail
      go_roundg (gk - 1)
      case measure => omega
      case rel =>
        refine ⟨k + 1, .slice (some ⟨g, 0, none⟩) (k + 1) cap, by first | rfl | go_num, by omega, HB4.out.setCell (p := ⟨w.heap.size + 1, 3, none⟩) (Nat.le_succ _) _, ?_, Row.other HRES4.out (Nat.ne_of_lt (Nat.lt_succ_self _)) _, Row.store HR4.out 3 _, ?_⟩
        · simp [World.setCell]; omega
        · rw [HSN.out]
          exact own_setCell HOWN4.out (p := ⟨w.heap.size + 1, 3, none⟩) (Nat.lt_succ_self _) _
    · obtain rfl : k = l.length := by omega
      rw [List.take_length] at hown
      have hV : SlV wr wr.heap.size x l := own_slG hown (fun _ => rfl) rfl (by omega)
      have hV0 := hV
      obtain ⟨_, A2, c2, rfl, _⟩ := hV0
      obtain ⟨m0, m1, m2, m3⟩ := st4 hres
      have f0 := Row.frozen hres 0
      have f1 := Row.frozen hres 1
      have f2 := Row.frozen hres 2
      have f3 := Row.frozen hres 3
      have hm := hres.lt
      have HV := Lib.hid hown
      have HRES := Lib.hid hres
      have HB := Lib.hid hBr
      clear hown hV hres hBr hrow
      go_wp2_with fail
      have r5 : Row ((((wr.setCell ⟨w.heap.size, 0, none⟩ (.int .i64 3)).setCell ⟨w.heap.size, 1, none⟩ (.int .i64 0)).setCell ⟨w.heap.size, 2, none⟩ (.string ⟨#[]⟩)).setCell ⟨w.heap.size, 3, none⟩ (.slice A2 l.length c2)) w.heap.size 104 [.int .i64 3, .int .i64 0, .string ⟨#[]⟩, .slice A2 l.length c2] := Row.store (Row.store (Row.store (Row.store HRES.out 0 _) 1 _) 2 _) 3 _
      have hB5 := (((HB.out.setCell (p := ⟨w.heap.size, 0, none⟩) (Nat.le_refl _) (.int .i64 3)).setCell (p := ⟨w.heap.size, 1, none⟩) (Nat.le_refl _) (.int .i64 0)).setCell (p := ⟨w.heap.size, 2, none⟩) (Nat.le_refl _) (.string ⟨#[]⟩)).setCell (p := ⟨w.heap.size, 3, none⟩) (Nat.le_refl _) (.slice A2 l.length c2)
      obtain ⟨k0, k1, k2, k3⟩ := st4 r5
      refine bodyPost_ret (v := listV A2 l.length c2) (by simp [results, Tryd.results75, go_sem, k0, k1, k2, k3]) rfl ⟨A2, c2, rfl, ?_, hB5⟩
      exact own_slG (own_setCell (own_setCell (own_setCell (own_setCell HV.out (p := ⟨w.heap.size, 0, none⟩) (by simp only []; omega) _) (p := ⟨w.heap.size, 1, none⟩) (by simp only []; omega) _) (p := ⟨w.heap.size, 2, none⟩) (by simp only []; omega) _) (p := ⟨w.heap.size, 3, none⟩) (by simp only []; omega) _) (fun _ => rfl) rfl (by omega)
end Go.Proofs.YtaheibbbdglcmaaDoor

set_option linter.unusedSimpArgs false
set_option linter.unusedVariables false
namespace Go.Proofs.YtaheibbbdglcmaaDoor
open Go.RowKit Fk Sha
/-! The reference's checks of values. -/
set_option maxRecDepth 100000 in
set_option maxHeartbeats 2000000 in
theorem refformed_int (n : Int) (w : World) :
    Calls Tryd.prog 102 #[intV n] w fun e w' => e = .returned (.bool true) ∧ Below w.heap.size w w' := by
  go_enter Tryd.func102, Tryd.ntmps102
  go_wp2_with fail
  go_ret
  exact ⟨rfl, (Below.refl _ _).alloc (Nat.le_refl _) _⟩
set_option maxRecDepth 100000 in
set_option maxHeartbeats 2000000 in
theorem refdepth_int (n : Int) (w : World) :
    Calls Tryd.prog 103 #[intV n] w fun e w' => e = .returned (.int .i64 0) ∧ Below w.heap.size w w' := by
  go_enter Tryd.func103, Tryd.ntmps103
  go_wp2_with fail
  go_ret
  exact ⟨rfl, (Below.refl _ _).alloc (Nat.le_refl _) _⟩
set_option maxRecDepth 100000 in
set_option maxHeartbeats 2000000 in
theorem refformed_list (l : List Int) (A : Option Addr) (c : Nat) (w : World) (h : SlV w w.heap.size (.slice A l.length c) l) :
    Calls Tryd.prog 102 #[listV A l.length c] w fun e w' => e = .returned (.bool true) ∧ Below w.heap.size w w' := by
  have HS := Lib.hid h
  have hl := h.1
  clear h
  have r0 := Row.new w 104 [.int .i64 3, .int .i64 0, .string ⟨#[]⟩, .slice A l.length c]
  have hB0 := below_alloc' w (.cells #[.int .i64 3, .int .i64 0, .string ⟨#[]⟩, .slice A l.length c] 104)
  go_enter Tryd.func102, Tryd.ntmps102
  go_wp2_with fail
  go_loopg [3] l.length (fun g iv wr => Row wr w.heap.size 104 [.int .i64 3, .int .i64 0, .string ⟨#[]⟩, .slice A l.length c] ∧ Below w.heap.size w wr ∧ ∃ k : Nat, iv = .int .i64 k ∧ k + g = l.length)
  case atStart => exact ⟨r0, hB0, 0, rfl, by omega⟩
  case round =>
    clear r0 hB0
    obtain ⟨hrow, hBr, k, rfl, hkg⟩ := hrel
    have hzr := hBr.size
    obtain ⟨k0, k1, k2, k3⟩ := st4 hrow
    have hzz := hrow.lt
    by_cases hlt : k < l.length
    · obtain ⟨b, o, c', hv, hb, d0, d1, d2, d3⟩ := SlV.get (HS.out.below hBr) hlt
      cases hv
      have s1 : (0 : Int) ≤ k := by omega
      have s2 : (k : Int) < l.length := by omega
      have hbz : b < wr.heap.size := by omega
      obtain ⟨x, hx⟩ : ∃ x, l.getD k default = x := ⟨_, rfl⟩
      rw [hx] at d1
      clear hx
      go_wp2_with (go_at_call 102; (with_reducible refine (refformed_int _ _).mono ?_); rintro e wn ⟨rfl, hn⟩)
      go_roundg (gk - 1)
      case measure => omega
      case rel => exact ⟨hrow.below hn hzz, hBr.trans (hn.mono hzr), k + 1, by first | rfl | go_num, by omega⟩
    · obtain rfl : k = l.length := by omega
      go_wp2_with fail
      go_ret
      exact ⟨rfl, hBr⟩
set_option maxRecDepth 100000 in
set_option maxHeartbeats 2000000 in
theorem refdepth_list (l : List Int) (A : Option Addr) (c : Nat) (w : World) (h : SlV w w.heap.size (.slice A l.length c) l) :
    Calls Tryd.prog 103 #[listV A l.length c] w fun e w' => e = .returned (.int .i64 1) ∧ Below w.heap.size w w' := by
  have HS := Lib.hid h
  have hl := h.1
  clear h
  have r0 := Row.new w 104 [.int .i64 3, .int .i64 0, .string ⟨#[]⟩, .slice A l.length c]
  have hB0 := below_alloc' w (.cells #[.int .i64 3, .int .i64 0, .string ⟨#[]⟩, .slice A l.length c] 104)
  go_enter Tryd.func103, Tryd.ntmps103
  go_wp2_with fail
  go_loopg [3, 4] l.length (fun g nv iv wr => nv = .int .i64 0 ∧ Row wr w.heap.size 104 [.int .i64 3, .int .i64 0, .string ⟨#[]⟩, .slice A l.length c] ∧ Below w.heap.size w wr ∧ ∃ k : Nat, iv = .int .i64 k ∧ k + g = l.length)
  case atStart => exact ⟨rfl, r0, hB0, 0, rfl, by omega⟩
  case round =>
    clear r0 hB0
    obtain ⟨rfl, hrow, hBr, k, rfl, hkg⟩ := hrel
    have hzr := hBr.size
    obtain ⟨k0, k1, k2, k3⟩ := st4 hrow
    have hzz := hrow.lt
    by_cases hlt : k < l.length
    · obtain ⟨b, o, c', hv, hb, d0, d1, d2, d3⟩ := SlV.get (HS.out.below hBr) hlt
      cases hv
      have s1 : (0 : Int) ≤ k := by omega
      have s2 : (k : Int) < l.length := by omega
      have hbz : b < wr.heap.size := by omega
      obtain ⟨x, hx⟩ : ∃ x, l.getD k default = x := ⟨_, rfl⟩
      rw [hx] at d1
      clear hx
      go_wp2_with (go_at_call 103; (with_reducible refine (refdepth_int _ _).mono ?_); rintro e wn ⟨rfl, hn⟩)
      go_roundg (gk - 1)
      case measure => omega
      case rel => exact ⟨by first | rfl | go_num, hrow.below hn hzz, hBr.trans (hn.mono hzr), k + 1, by first | rfl | go_num, by omega⟩
    · obtain rfl : k = l.length := by omega
      go_wp2_with fail
      go_ret
      exact ⟨by first | rfl | go_num, hBr⟩
set_option maxRecDepth 100000 in
set_option maxHeartbeats 2000000 in
theorem refcheck_list (l : List Int) (A : Option Addr) (c : Nat) (w : World) (h : SlV w w.heap.size (.slice A l.length c) l) :
    Calls Tryd.prog 89 #[listV A l.length c] w fun e w' => e = .returned (.int .i64 0) ∧ Below w.heap.size w w' := by
  have HS := Lib.hid h
  clear h
  have r0 := Row.new w 104 [.int .i64 3, .int .i64 0, .string ⟨#[]⟩, .slice A l.length c]
  have hB0 := below_alloc' w (.cells #[.int .i64 3, .int .i64 0, .string ⟨#[]⟩, .slice A l.length c] 104)
  have hf := fun W (h : Below w.heap.size w W) => refformed_list l A c W ((HS.out.below h).mono h.size)
  have hd := fun W (h : Below w.heap.size w W) => refdepth_list l A c W ((HS.out.below h).mono h.size)
  have HF := Lib.hid hf
  have HD := Lib.hid hd
  clear hf hd
  go_enter Tryd.func89, Tryd.ntmps89
  obtain ⟨W, hW⟩ : ∃ W, w.alloc (.cells #[.int .i64 3, .int .i64 0, .string ⟨#[]⟩, .slice A l.length c] 104) = W := ⟨_, rfl⟩
  replace r0 : Row W w.heap.size 104 [.int .i64 3, .int .i64 0, .string ⟨#[]⟩, .slice A l.length c] := hW ▸ r0
  rw [hW] at hB0
  have hz := r0.lt
  go_upto_region 1 with fail
  clear hW
  obtain ⟨k0, k1, k2, k3⟩ := st4 r0
  go_wp2_with (first
    | (go_at_call 102; (with_reducible refine (HF.out _ hB0).mono ?_); rintro e w1 ⟨rfl, hb⟩; replace r0 := r0.below hb hz; replace hB0 := hB0.trans (hb.mono hB0.size); replace hz := r0.lt; clear k0 k1 k2 k3; obtain ⟨k0, k1, k2, k3⟩ := st4 r0)
    | (go_at_call 103; (with_reducible refine (HD.out _ hB0).mono ?_); rintro e w2 ⟨rfl, hb2⟩))
  go_ret
  exact ⟨rfl, hB0.trans (hb2.mono hB0.size)⟩
end Go.Proofs.YtaheibbbdglcmaaDoor

set_option linter.unusedSimpArgs false
set_option linter.unusedVariables false
namespace Go.Proofs.YtaheibbbdglcmaaDoor
open Go.RowKit Fk Sha
/-! The reference's encoding. -/
set_option maxRecDepth 100000 in
set_option maxHeartbeats 4000000 in
theorem refencode_int (n : Nat) (hn : n < 4611686018427387904) (w : World) :
    Calls Tryd.prog 90 #[intV (n : Int)] w fun e w' => ∃ v, e = .returned v ∧ ownR w.heap.size w' v (encI1 (n : Int)) ∧ Below w.heap.size w w' := by
  have hu := fun w => refunsigned_any n hn w
  have hnm := fun w => refnumeral_any (2 * n) (by omega) w
  have hle : (numeral (2 * n)).length ≤ 9 := numeral_length 8 (2 * n) (by omega)
  have hen : encI1 (n : Int) = 1#8 :: numeral (2 * n) := by unfold encI1; rw [Int.toNat_natCast]
  obtain ⟨m, hm⟩ : ∃ m, 2 * n = m := ⟨_, rfl⟩
  rw [hm] at hu hnm hle hen
  obtain ⟨R, hR⟩ : ∃ R, numeral m = R := ⟨_, rfl⟩
  rw [hR] at hnm hle hen
  have HU := Lib.hid hu
  have HM := Lib.hid hnm
  have HE := Lib.hid hen
  have hBb := below_alloc' w (.cells #[.int .i64 1, .int .i64 (n : Int), .string ⟨#[]⟩, .slice none 0 0] 104)
  have hB0 := hBb.alloc hBb.size (.cells #[.int .u8 1] 5)
  have ho := own_oneB (w.alloc (.cells #[.int .i64 1, .int .i64 (n : Int), .string ⟨#[]⟩, .slice none 0 0] 104)) 1#8 (.int .u8 1) rfl
  have hz : w.heap.size + 1 ≤ ((w.alloc (.cells #[.int .i64 1, .int .i64 (n : Int), .string ⟨#[]⟩, .slice none 0 0] 104)).alloc (.cells #[.int .u8 1] 5)).heap.size := by simp
  rw [show (w.alloc (.cells #[.int .i64 1, .int .i64 (n : Int), .string ⟨#[]⟩, .slice none 0 0] 104)).heap.size = w.heap.size + 1 by simp] at ho
  have HO := Lib.hid ho
  clear hu hnm hen hR hm ho hBb
  go_enter Tryd.func90, Tryd.ntmps90
  go_wp2_with (first
    | (go_at_call 105; (with_reducible refine (HU.out _).mono ?_); rintro e w1 ⟨rfl, rfl⟩)
    | (go_at_call 104; (with_reducible refine (HM.out _).mono ?_); rintro e w1 ⟨v1, rfl, ho1, hb1⟩; have hob := own_slB ho1 rfl (by omega); have HO1 := Lib.hid (ownR.below HO.out hb1); have HB1 := Lib.hid (hB0.trans (hb1.mono hB0.size)); have hz1 := Nat.le_trans hz hb1.size; have HOB := Lib.hid hob; clear ho1 hob hb1)
    | (at_builtin; refine wpList_app rfl _ _ rfl (w.heap.size + 1) _ 1 [1#8] rfl HO1.out _ rfl R _ HOB.out.1 HOB.out.2 (by omega) hz1 ?_; intro v2 w2 ho2 hg2))
  go_ret
  refine ⟨_, rfl, ?_, HB1.out.grown hg2 HB1.out.size (fun r e => by have := (HO1.out.lt r e).1; omega)⟩
  rw [HE.out]
  exact ownR.lower (ownR.of ho2 rfl (by rw [List.length_cons]; omega)) (by omega)
set_option maxRecDepth 100000 in
set_option maxHeartbeats 4000000 in
theorem refencode_list (l : List Int) (A : Option Addr) (c : Nat) (w : World) (h : SlV w w.heap.size (.slice A l.length c) l) (hs : smallI l) (hl : l.length ≤ 1000) :
    Calls Tryd.prog 90 #[listV A l.length c] w fun e w' => ∃ v, e = .returned v ∧ ownR w.heap.size w' v (encL l) ∧ Below w.heap.size w w' := by
  have HS := Lib.hid h
  have HN := Lib.hid hs
  have HF := Lib.hid (flat_length hs)
  have hnm := fun w => refnumeral_any l.length (by omega) w
  have hle : (numeral l.length).length ≤ 9 := numeral_length 8 l.length (by omega)
  have hen : encHd l.length = 3#8 :: numeral l.length := rfl
  obtain ⟨R, hR⟩ : ∃ R, numeral l.length = R := ⟨_, rfl⟩
  rw [hR] at hnm hle hen
  have HM := Lib.hid hnm
  have HE := Lib.hid hen
  clear h hs hnm hen hR
  have r0 := Row.new w 104 [.int .i64 3, .int .i64 0, .string ⟨#[]⟩, .slice A l.length c]
  have hBb := below_alloc' w (.cells #[.int .i64 3, .int .i64 0, .string ⟨#[]⟩, .slice A l.length c] 104)
  go_enter Tryd.func90, Tryd.ntmps90
  obtain ⟨W, hW⟩ : ∃ W, w.alloc (.cells #[.int .i64 3, .int .i64 0, .string ⟨#[]⟩, .slice A l.length c] 104) = W := ⟨_, rfl⟩
  replace r0 : Row W w.heap.size 104 [.int .i64 3, .int .i64 0, .string ⟨#[]⟩, .slice A l.length c] := hW ▸ r0
  have hzW : W.heap.size = w.heap.size + 1 := by rw [← hW]; simp
  rw [hW] at hBb
  go_upto_region 1 with fail
  clear hW
  have hz := r0.lt
  obtain ⟨k0, k1, k2, k3⟩ := st4 r0
  have ho := own_oneB W 3#8 (.int .u8 3) rfl
  rw [hzW] at ho
  have HO := Lib.hid ho
  have hB0 := hBb.alloc hBb.size (.cells #[.int .u8 3] 5)
  have r0' := r0.alloc (.cells #[.int .u8 3] 5)
  have hz0 : w.heap.size + 1 ≤ (W.alloc (.cells #[.int .u8 3] 5)).heap.size := by simp; omega
  clear ho
  go_upto_region 7 with (first
    | (go_at_call 104; (with_reducible refine (HM.out _).mono ?_); rintro e w1 ⟨v1, rfl, ho1, hb1⟩; have hob := own_slB ho1 rfl (by omega); have HO1 := Lib.hid (ownR.below HO.out hb1); have HB1 := Lib.hid (hB0.trans (hb1.mono hB0.size)); have hz1 := Nat.le_trans hz0 hb1.size; have HOB := Lib.hid hob; have HR1 := Lib.hid (r0'.below hb1 r0'.lt); clear ho1 hob hb1)
    | (at_builtin; refine wpList_app rfl _ _ rfl (w.heap.size + 1) _ 1 [3#8] (by first | rfl | simp [hzW]) HO1.out _ rfl R _ HOB.out.1 HOB.out.2 (by omega) hz1 ?_; intro v2 w2 ho2 hg2))
  have hB2 := HB1.out.grown hg2 HB1.out.size (fun r e => by have := (HO1.out.lt r e).1; omega)
  have hr2 : Row w2 w.heap.size 104 [.int .i64 3, .int .i64 0, .string ⟨#[]⟩, .slice A l.length c] := HR1.out.keep (hg2.block _ HR1.out.lt (fun e => by have := (HO1.out.lt _ e.symm).1; omega))
  have ho3 : ownR (w.heap.size + 1) w2 v2 (encHd l.length ++ (l.take 0).flatMap encI1) := ownR.of ho2 (by rw [HE.out]; simp) (by rw [HE.out]; simp; omega)
  have hz2 : w.heap.size + 1 ≤ w2.heap.size := Nat.le_trans hz1 hg2.size
  clear HM HO HO1 HB1 HOB HR1 hz1 hz0 r0' hB0 k0 k1 k2 k3 hz r0 hBb hzW ho2 hg2
  go_wp2_with fail
  go_loopg [3, 4] l.length (fun gh ov iv wr => ∃ k : Nat, iv = .int .i64 k ∧ k + gh = l.length ∧ Row wr w.heap.size 104 [.int .i64 3, .int .i64 0, .string ⟨#[]⟩, .slice A l.length c] ∧ Below w.heap.size w wr ∧ w.heap.size + 1 ≤ wr.heap.size ∧ ownR (w.heap.size + 1) wr ov (encHd l.length ++ (l.take k).flatMap encI1))
  case atStart => exact ⟨0, rfl, by omega, hr2, hB2, hz2, ho3⟩
  case round =>
    clear hr2 hB2 hz2 ho3
    obtain ⟨k, rfl, hkg, hrow, hBr, hzr, hown⟩ := hrel
    obtain ⟨k0, k1, k2, k3⟩ := st4 hrow
    have hzz := hrow.lt
    by_cases hlt : k < l.length
    · obtain ⟨b, o, c', hv, hb, d0, d1, d2, d3⟩ := SlV.get (HS.out.below hBr) hlt
      cases hv
      have hnn := HN.out k hlt
      have hsn := take_snocJ hlt
      have hlen := HF.out k (by omega)
      have hhd := encHd_length (n := l.length) (by omega)
      have hfl : (encHd l.length ++ (l.take k).flatMap encI1).length ≤ 1000000 := by rw [List.length_append]; omega
      have hxl := encI1_length hnn.2
      obtain ⟨x, hx⟩ : ∃ x, l.getD k default = x := ⟨_, rfl⟩
      rw [hx] at d1 hnn hsn hxl
      obtain ⟨m, rfl⟩ : ∃ m : Nat, x = (m : Int) := ⟨x.toNat, by omega⟩
      have s1 : (0 : Int) ≤ k := by omega
      have s2 : (k : Int) < l.length := by omega
      have hbz : b < wr.heap.size := by omega
      clear hx hlen hhd
      obtain ⟨acc, hacc⟩ : ∃ acc, encHd l.length ++ (l.take k).flatMap encI1 = acc := ⟨_, rfl⟩
      have HSN := Lib.hid hsn
      have HAC := Lib.hid hacc
      rw [hacc] at hown hfl
      have hei := fun w => refencode_int m (by omega) w
      obtain ⟨E, hE⟩ : ∃ E, encI1 (m : Int) = E := ⟨_, rfl⟩
      rw [hE] at hei hxl
      have HEE := Lib.hid hE
      have HEI := Lib.hid hei
      have HOW := Lib.hid hown
      have HROW := Lib.hid hrow
      clear hsn hacc hei hE hown
      go_wp2_with (first
        | (go_at_call 90; (with_reducible refine (HEI.out _).mono ?_); rintro e w1 ⟨v1, rfl, ho1, hb1⟩; have HOB := Lib.hid (own_slB ho1 rfl (by omega)); have HO1 := Lib.hid (ownR.below HOW.out hb1); have HB1 := Lib.hid (hBr.trans (hb1.mono hBr.size)); have hz1 := Nat.le_trans hzr hb1.size; have HR1 := Lib.hid (HROW.out.below hb1 hzz); clear ho1 hb1)
        | (at_builtin; refine wpList_app rfl _ _ rfl (w.heap.size + 1) _ acc.length acc rfl HO1.out _ rfl E _ HOB.out.1 HOB.out.2 (by omega) hz1 ?_; intro v2 w2 ho2 hg2))
      go_roundg (gk - 1)
      case measure => omega
      case rel =>
        refine ⟨k + 1, by first | rfl | go_num, by omega, HR1.out.keep (hg2.block _ HR1.out.lt (fun e => by have := (HO1.out.lt _ e.symm).1; omega)), HB1.out.grown hg2 HB1.out.size (fun r e => by have := (HO1.out.lt r e).1; omega), Nat.le_trans hz1 hg2.size, ?_⟩
        rw [HSN.out, ← List.append_assoc, HAC.out]
        exact ownR.of ho2 (by rw [HEE.out]) (by rw [List.length_append, HEE.out])
    · obtain rfl : k = l.length := by omega
      rw [List.take_length] at hown
      go_wp2_with fail
      go_ret
      exact ⟨_, rfl, ownR.lower hown (by omega), hBr⟩
set_option maxRecDepth 100000 in
set_option maxHeartbeats 4000000 in
theorem refEncode_list (l : List Int) (A : Option Addr) (c : Nat) (w : World) (h : SlV w w.heap.size (.slice A l.length c) l) (hs : smallI l) (hl : l.length ≤ 1000) :
    Calls Tryd.prog 74 #[listV A l.length c] w fun e w' => ∃ v, e = .returned (.tuple #[v, .int .i64 0]) ∧ ownR w.heap.size w' v (encL l) ∧ Below w.heap.size w w' := by
  have HS := Lib.hid h
  have HN := Lib.hid hs
  clear h hs
  have r0 := Row.new w 104 [.int .i64 3, .int .i64 0, .string ⟨#[]⟩, .slice A l.length c]
  have hB0 := below_alloc' w (.cells #[.int .i64 3, .int .i64 0, .string ⟨#[]⟩, .slice A l.length c] 104)
  have hf := fun W (h : Below w.heap.size w W) => refcheck_list l A c W ((HS.out.below h).mono h.size)
  have hd := fun W (h : Below w.heap.size w W) => refencode_list l A c W ((HS.out.below h).mono h.size) HN.out hl
  have HF := Lib.hid hf
  have HD := Lib.hid hd
  clear hf hd
  go_enter Tryd.func74, Tryd.ntmps74
  obtain ⟨W, hW⟩ : ∃ W, w.alloc (.cells #[.int .i64 3, .int .i64 0, .string ⟨#[]⟩, .slice A l.length c] 104) = W := ⟨_, rfl⟩
  replace r0 : Row W w.heap.size 104 [.int .i64 3, .int .i64 0, .string ⟨#[]⟩, .slice A l.length c] := hW ▸ r0
  rw [hW] at hB0
  have hz := r0.lt
  go_upto_region 1 with fail
  clear hW
  obtain ⟨k0, k1, k2, k3⟩ := st4 r0
  go_wp2_with (first
    | (go_at_call 89; (with_reducible refine (HF.out _ hB0).mono ?_); rintro e w1 ⟨rfl, hb⟩; replace r0 := r0.below hb hz; replace hB0 := hB0.trans (hb.mono hB0.size); replace hz := r0.lt; clear k0 k1 k2 k3; obtain ⟨k0, k1, k2, k3⟩ := st4 r0)
    | (go_at_call 90; (with_reducible refine (HD.out _ hB0).mono ?_); rintro e w2 ⟨v, rfl, ho, hb2⟩))
  go_ret2
  exact ⟨v, rfl, ownR.lower ho hB0.size, hB0.trans (hb2.mono hB0.size)⟩
end Go.Proofs.YtaheibbbdglcmaaDoor

set_option linter.unusedSimpArgs false
set_option linter.unusedVariables false
namespace Go.Proofs.YtaheibbbdglcmaaDoor
open Go.RowKit Fk Sha
/-! The reference's text of numbers. -/
set_option maxRecDepth 100000 in
set_option maxHeartbeats 2000000 in
theorem reftext_any (l : List Int) (v : Value) (w : World) (h : SlI w w.heap.size v l) (hs : smallI l) (hl : l.length ≤ 1000) :
    Calls Tryd.prog 46 #[v] w fun e w' => ∃ v', e = .returned v' ∧ ownR w.heap.size w' v' (encL l) ∧ Below w.heap.size w w' := by
  have hI := refints_any l v w h hl
  have HI := Lib.hid hI
  have HN := Lib.hid hs
  clear hI h hs
  go_enter Tryd.func46, Tryd.ntmps46
  go_wp2_with (first
    | (go_at_call 75; (with_reducible refine HI.out.mono ?_); rintro e w1 ⟨A, c, rfl, hS1, hb1⟩; have he := refEncode_list l A c w1 hS1 HN.out hl; have HE := Lib.hid he; clear he hS1)
    | (go_at_call 74; (with_reducible refine HE.out.mono ?_); rintro e w2 ⟨v2, rfl, ho, hb2⟩))
  go_ret
  exact ⟨v2, rfl, ownR.lower ho hb1.size, hb1.trans (hb2.mono hb1.size)⟩
end Go.Proofs.YtaheibbbdglcmaaDoor

namespace Go.Proofs.YtaheibbbdglcmaaDoor
open Go.RowKit Fk Sha
/-! The reference's small functions of the hash. -/
theorem ret_u32s {a b : Int} (h : a = b) : Ending.returned (.int .u32 a) = .returned (.int .u32 b) := by rw [h]
theorem ror_2 (x : W) (w : World) :
    Calls Tryd.prog 94 #[u x, .int .i64 2] w fun e w' => e = .returned (u (rr x 2)) ∧ ∃ m, w' = w.drewN m := by
  unfold u
  have hx := (un_bd x).1
  have h2 := shr_n x 2
  have h3 := shl_n x (32 - 2)
  rw [show ((2 : Int) ^ 2) = 4 by decide] at h2
  rw [show ((2 : Int) ^ (32 - 2)) = 1073741824 by decide] at h3
  have h4 := or_n (x >>> 2) (x <<< (32 - 2))
  go_enter Tryd.func94, Tryd.ntmps94
  go_wp2
  go_quiet (fail)
  go_wp2
  go_ret
  exact ⟨ret_u32s (by unfold rr; rfl), _, rfl⟩
theorem ror_6 (x : W) (w : World) :
    Calls Tryd.prog 94 #[u x, .int .i64 6] w fun e w' => e = .returned (u (rr x 6)) ∧ ∃ m, w' = w.drewN m := by
  unfold u
  have hx := (un_bd x).1
  have h2 := shr_n x 6
  have h3 := shl_n x (32 - 6)
  rw [show ((2 : Int) ^ 6) = 64 by decide] at h2
  rw [show ((2 : Int) ^ (32 - 6)) = 67108864 by decide] at h3
  have h4 := or_n (x >>> 6) (x <<< (32 - 6))
  go_enter Tryd.func94, Tryd.ntmps94
  go_wp2
  go_quiet (fail)
  go_wp2
  go_ret
  exact ⟨ret_u32s (by unfold rr; rfl), _, rfl⟩
theorem ror_7 (x : W) (w : World) :
    Calls Tryd.prog 94 #[u x, .int .i64 7] w fun e w' => e = .returned (u (rr x 7)) ∧ ∃ m, w' = w.drewN m := by
  unfold u
  have hx := (un_bd x).1
  have h2 := shr_n x 7
  have h3 := shl_n x (32 - 7)
  rw [show ((2 : Int) ^ 7) = 128 by decide] at h2
  rw [show ((2 : Int) ^ (32 - 7)) = 33554432 by decide] at h3
  have h4 := or_n (x >>> 7) (x <<< (32 - 7))
  go_enter Tryd.func94, Tryd.ntmps94
  go_wp2
  go_quiet (fail)
  go_wp2
  go_ret
  exact ⟨ret_u32s (by unfold rr; rfl), _, rfl⟩
theorem ror_11 (x : W) (w : World) :
    Calls Tryd.prog 94 #[u x, .int .i64 11] w fun e w' => e = .returned (u (rr x 11)) ∧ ∃ m, w' = w.drewN m := by
  unfold u
  have hx := (un_bd x).1
  have h2 := shr_n x 11
  have h3 := shl_n x (32 - 11)
  rw [show ((2 : Int) ^ 11) = 2048 by decide] at h2
  rw [show ((2 : Int) ^ (32 - 11)) = 2097152 by decide] at h3
  have h4 := or_n (x >>> 11) (x <<< (32 - 11))
  go_enter Tryd.func94, Tryd.ntmps94
  go_wp2
  go_quiet (fail)
  go_wp2
  go_ret
  exact ⟨ret_u32s (by unfold rr; rfl), _, rfl⟩
theorem ror_13 (x : W) (w : World) :
    Calls Tryd.prog 94 #[u x, .int .i64 13] w fun e w' => e = .returned (u (rr x 13)) ∧ ∃ m, w' = w.drewN m := by
  unfold u
  have hx := (un_bd x).1
  have h2 := shr_n x 13
  have h3 := shl_n x (32 - 13)
  rw [show ((2 : Int) ^ 13) = 8192 by decide] at h2
  rw [show ((2 : Int) ^ (32 - 13)) = 524288 by decide] at h3
  have h4 := or_n (x >>> 13) (x <<< (32 - 13))
  go_enter Tryd.func94, Tryd.ntmps94
  go_wp2
  go_quiet (fail)
  go_wp2
  go_ret
  exact ⟨ret_u32s (by unfold rr; rfl), _, rfl⟩
theorem ror_17 (x : W) (w : World) :
    Calls Tryd.prog 94 #[u x, .int .i64 17] w fun e w' => e = .returned (u (rr x 17)) ∧ ∃ m, w' = w.drewN m := by
  unfold u
  have hx := (un_bd x).1
  have h2 := shr_n x 17
  have h3 := shl_n x (32 - 17)
  rw [show ((2 : Int) ^ 17) = 131072 by decide] at h2
  rw [show ((2 : Int) ^ (32 - 17)) = 32768 by decide] at h3
  have h4 := or_n (x >>> 17) (x <<< (32 - 17))
  go_enter Tryd.func94, Tryd.ntmps94
  go_wp2
  go_quiet (fail)
  go_wp2
  go_ret
  exact ⟨ret_u32s (by unfold rr; rfl), _, rfl⟩
theorem ror_18 (x : W) (w : World) :
    Calls Tryd.prog 94 #[u x, .int .i64 18] w fun e w' => e = .returned (u (rr x 18)) ∧ ∃ m, w' = w.drewN m := by
  unfold u
  have hx := (un_bd x).1
  have h2 := shr_n x 18
  have h3 := shl_n x (32 - 18)
  rw [show ((2 : Int) ^ 18) = 262144 by decide] at h2
  rw [show ((2 : Int) ^ (32 - 18)) = 16384 by decide] at h3
  have h4 := or_n (x >>> 18) (x <<< (32 - 18))
  go_enter Tryd.func94, Tryd.ntmps94
  go_wp2
  go_quiet (fail)
  go_wp2
  go_ret
  exact ⟨ret_u32s (by unfold rr; rfl), _, rfl⟩
theorem ror_19 (x : W) (w : World) :
    Calls Tryd.prog 94 #[u x, .int .i64 19] w fun e w' => e = .returned (u (rr x 19)) ∧ ∃ m, w' = w.drewN m := by
  unfold u
  have hx := (un_bd x).1
  have h2 := shr_n x 19
  have h3 := shl_n x (32 - 19)
  rw [show ((2 : Int) ^ 19) = 524288 by decide] at h2
  rw [show ((2 : Int) ^ (32 - 19)) = 8192 by decide] at h3
  have h4 := or_n (x >>> 19) (x <<< (32 - 19))
  go_enter Tryd.func94, Tryd.ntmps94
  go_wp2
  go_quiet (fail)
  go_wp2
  go_ret
  exact ⟨ret_u32s (by unfold rr; rfl), _, rfl⟩
theorem ror_22 (x : W) (w : World) :
    Calls Tryd.prog 94 #[u x, .int .i64 22] w fun e w' => e = .returned (u (rr x 22)) ∧ ∃ m, w' = w.drewN m := by
  unfold u
  have hx := (un_bd x).1
  have h2 := shr_n x 22
  have h3 := shl_n x (32 - 22)
  rw [show ((2 : Int) ^ 22) = 4194304 by decide] at h2
  rw [show ((2 : Int) ^ (32 - 22)) = 1024 by decide] at h3
  have h4 := or_n (x >>> 22) (x <<< (32 - 22))
  go_enter Tryd.func94, Tryd.ntmps94
  go_wp2
  go_quiet (fail)
  go_wp2
  go_ret
  exact ⟨ret_u32s (by unfold rr; rfl), _, rfl⟩
theorem ror_25 (x : W) (w : World) :
    Calls Tryd.prog 94 #[u x, .int .i64 25] w fun e w' => e = .returned (u (rr x 25)) ∧ ∃ m, w' = w.drewN m := by
  unfold u
  have hx := (un_bd x).1
  have h2 := shr_n x 25
  have h3 := shl_n x (32 - 25)
  rw [show ((2 : Int) ^ 25) = 33554432 by decide] at h2
  rw [show ((2 : Int) ^ (32 - 25)) = 128 by decide] at h3
  have h4 := or_n (x >>> 25) (x <<< (32 - 25))
  go_enter Tryd.func94, Tryd.ntmps94
  go_wp2
  go_quiet (fail)
  go_wp2
  go_ret
  exact ⟨ret_u32s (by unfold rr; rfl), _, rfl⟩
end Go.Proofs.YtaheibbbdglcmaaDoor

namespace Go.Proofs.YtaheibbbdglcmaaDoor
open Go.RowKit Fk Sha
/-! The reference's words and numbers. -/
theorem four_of {l : List B} (h : l.length = 4) : ∃ a b c d, l = [a, b, c, d] := by
  match l, h with
  | [a, b, c, d], _ => exact ⟨a, b, c, d, rfl⟩
theorem wd_join (a b c d : B) : bits .or .u32 (bits .or .u32 (bits .or .u32 (bn a * (16777216 : Int)) (bn b * (65536 : Int))) (bn c * (256 : Int))) (bn d) = un (wd [a, b, c, d]) := by
  rw [wd_four]
  have e1 := shl_n (a.setWidth 32) 24
  have e2 := shl_n (b.setWidth 32) 16
  have e3 := shl_n (c.setWidth 32) 8
  obtain ⟨p0, q0⟩ := bn_bd a
  obtain ⟨p1, q1⟩ := bn_bd b
  obtain ⟨p2, q2⟩ := bn_bd c
  rw [show ((2 : Int) ^ 24) = 16777216 by decide, byte_n, Int.emod_eq_of_lt (by omega) (by omega)] at e1
  rw [show ((2 : Int) ^ 16) = 65536 by decide, byte_n, Int.emod_eq_of_lt (by omega) (by omega)] at e2
  rw [show ((2 : Int) ^ 8) = 256 by decide, byte_n, Int.emod_eq_of_lt (by omega) (by omega)] at e3
  rw [e1, e2, e3, ← byte_n d, or_n, or_n, or_n]
set_option maxHeartbeats 1000000 in
theorem refword_any (l : List B) (b off cap : Nat) (w : World) (hl : l.length = 4) (h : ∀ i, i < 4 → w.cell? ⟨b, off + i, none⟩ = some (bv (l.getD i default))) :
    Calls Tryd.prog 93 #[.slice (some ⟨b, off, none⟩) 4 cap] w fun e w' => e = .returned (u (wd l)) ∧ ∃ m, w' = w.drewN m := by
  obtain ⟨x0, x1, x2, x3, rfl⟩ := four_of hl
  have c0 : w.cell? ⟨b, off, none⟩ = some (.int .u8 (bn x0)) := h 0 (by omega)
  have c1 : w.cell? ⟨b, off + 1, none⟩ = some (.int .u8 (bn x1)) := h 1 (by omega)
  have c2 : w.cell? ⟨b, off + 2, none⟩ = some (.int .u8 (bn x2)) := h 2 (by omega)
  have c3 : w.cell? ⟨b, off + 3, none⟩ = some (.int .u8 (bn x3)) := h 3 (by omega)
  have hj := wd_join x0 x1 x2 x3
  obtain ⟨p0, q0⟩ := bn_bd x0
  obtain ⟨p1, q1⟩ := bn_bd x1
  obtain ⟨p2, q2⟩ := bn_bd x2
  obtain ⟨p3, q3⟩ := bn_bd x3
  unfold u
  generalize un (wd [x0, x1, x2, x3]) = y at *
  generalize bn x0 = n0 at *
  generalize bn x1 = n1 at *
  generalize bn x2 = n2 at *
  generalize bn x3 = n3 at *
  have HJ := Lib.hid hj
  clear h hj hl
  go_enter Tryd.func93, Tryd.ntmps93
  go_wp2
  go_quiet (fail)
  go_wp2
  go_ret
  exact ⟨ret_u32s (by rw [← HJ.out]), _, rfl⟩
set_option maxRecDepth 100000 in
set_option maxHeartbeats 1000000 in
theorem refnumbers_any (w : World) :
    Calls Tryd.prog 95 #[] w fun e w' => e = .returned (.agg (numbersL.map u).toArray) ∧ Below w.heap.size w w' := by
  go_enter Tryd.func95, Tryd.ntmps95
  go_upto_region 1 with (fail)
  have hinf : (Tryd.prog.info? 117).map (·.size) = some 64 := by kernel_rfl
  have hg := World.alloc_heap_new w (.cells (List.replicate 64 (Value.int .u32 0)).toArray 117)
  refine wp_region_lit ?_
  refine wpList_build rfl 117 _ rfl (by kernel_rfl) ?_
  refine wpList_store_row rfl 117 (.tmp 0) (.tmp 1) rfl w.heap.size (numbersL.map u).toArray rfl (by kernel_rfl) 117 (List.replicate 64 (Value.int .u32 0)).toArray hg hinf rfl (by kernel_rfl) ?_
  refine (show _ = w.alloc (.cells (numbersL.map u).toArray 117) from setRow_new w _ _ _) ▸ ?_
  go_wp2
  exact bodyPost_ret (v := .agg (numbersL.map u).toArray) (results_cell_row (g := w.heap.size) (t := 117) (fr := (0, 0)) rfl _ _ _ _ rfl (World.alloc_heap_new w _) Tryd.underlying117 rfl hinf) rfl ⟨rfl, (Below.refl _ w).alloc (Nat.le_refl _) _⟩
end Go.Proofs.YtaheibbbdglcmaaDoor
