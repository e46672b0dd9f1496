import Derived.Test.YthckledagggoiaaGreatDoorZLf0
import Derived.Deep.LoopGhost
import Derived.Deep.QuietTactic
import Derived.BigQuiet
set_option linter.unusedSimpArgs false
set_option linter.unusedVariables false
namespace Go.Proofs.YthckledagggoiaaGreatDoor
open Go.RowKit Go.Shelf Fk Sha
/-! ForwardReads -/
set_option maxRecDepth 100000 in
set_option maxHeartbeats 16000000 in
theorem forwardReads_walk (l : List Lx) (xt : Int × Value) (ow : O4) (s : Int) (en : List En) (ev : Value) (people office al day time r : Int) (xw : P2) (m : Tr) (w : World) (hT : Tab w) (hz : 1 < w.heap.size ∧ 0 < w.heap.size)
    (h0 : SlX w w.heap.size xt.2 l) (h3 : SlE w w.heap.size ev en) (hcap : capX l) (_ : True) (_ : (Lit.int .i64 s).wf = true) (_ : True)
    (_ : (Lit.int .i64 people).wf = true) (_ : (Lit.int .i64 office).wf = true) (_ : (Lit.int .i64 al).wf = true) (_ : (Lit.int .i64 day).wf = true) (_ : (Lit.int .i64 time).wf = true) (_ : (Lit.int .i64 r).wf = true) (_ : True) (_ : True) :
    Calls Tryz.prog 6 #[ttV xt.1 xt.2, ow.val, .int .i64 s, ev, .int .i64 people, .int .i64 office, .int .i64 al, .int .i64 day, .int .i64 time, .int .i64 r, xw.val, m.val] w fun e w' => e = .returned (.bool true) ∧ Below w.heap.size w w' := by
  have hTT : TabOK w := ⟨hT, hz⟩
  obtain ⟨n, v⟩ := xt
  obtain ⟨A, c, rfl⟩ : ∃ A c, ev = .slice A en.length c := by obtain ⟨_, A, c, h, _⟩ := h3; exact ⟨A, c, h⟩
  obtain ⟨Al, cl, rfl⟩ : ∃ A c, v = .slice A l.length c := by obtain ⟨⟨_, A, c, h, _⟩, _⟩ := h0; exact ⟨A, c, h⟩
  have c1 := fun (W : World) (hb : Below w.heap.size w W) => sane36_any W (hTT.below hb)
  have f1 := fun (W : World) (hb : Below w.heap.size w W) => rfew36_any l n (.slice Al l.length cl) none 0 0 A en.length c people W (h0.below hb) hcap
  have k1 := fun (W : World) (hb : Below w.heap.size w W) => rtt_any l n (.slice Al l.length cl) W (h0.below hb) hcap
  have s1 := fun (h1 : ttE l n = 0) (W : World) (hb : Below w.heap.size w W) => secrets_any l n (.slice Al l.length cl) ow.a ow.b ow.c ow.d W (h0.below hb) (Nat.le_trans (ttE_0 h1).1 (by decide)) (fun q hq => Nat.le_trans (lineB_len ((ttE_0 h1).2.2.1 q hq)).2 (by decide))
  obtain ⟨KL, hKL⟩ : ∃ KL, (l.map fun x => keyO ow.a ow.b ow.c ow.d x.ol) = KL := ⟨_, rfl⟩
  rw [hKL] at s1
  have n1 := fun (kv : Value) (W : World) (hb : Below w.heap.size w W) (hk : SlI W W.heap.size kv KL) => next_any l n (.slice Al l.length cl) KL kv s en (.slice A en.length c) people office al day time r W (hTT.below hb) (h0.below hb) hk ((h3.below hb).mono hb.size)
  have n2 := fun (O al2 : Int) (kv : Value) (W : World) (hb : Below w.heap.size w W) (hk : SlI W W.heap.size kv KL) => next_any l n (.slice Al l.length cl) KL kv s en (.slice A en.length c) people O al2 day time r W (hTT.below hb) (h0.below hb) hk ((h3.below hb).mono hb.size)
  have nb := nextR_back l n KL s en people office al day time r
  have ne := nextR_err l n KL s en people office al day time r
  have o1 := nextR_wf l n KL s en people office al day time r
  have o2 := nextR_ok l n KL s en people office al day time r
  obtain ⟨⟨Y, E⟩, hR⟩ : ∃ p, nextR l n KL s en people office al day time r = p := ⟨_, rfl⟩
  rw [hR] at n1 nb ne o1 o2
  simp only at n1 nb ne o1 o2
  have e1 := fun W => eqBack o2 W
  have dY := o1.ds
  have i1 : (Tryz.prog.info? 36).map (·.size) = some (retC Y.line Y.key Y.a Y.b (Y.ds.map bv)).length := by rw [back_len o2]; kernel_rfl
  have i2 : (Tryz.prog.info? 38).map (·.size) = some Y.cells.length := by rw [Fw.len dY]; kernel_rfl
  have t1 := fun (W : World) (g : Nat) (h : Row W g 38 Y.cells) => range_back h
  obtain ⟨R1, hq1⟩ : ∃ R, retC Y.line Y.key Y.a Y.b (Y.ds.map bv) = R := ⟨_, rfl⟩
  simp only [hq1] at e1 t1
  rw [hq1] at i1
  have hS := RS.start w n (.slice Al l.length cl) ow xw m
  obtain ⟨b1v, hb1v⟩ : ∃ b, few36 l 0 en.length people = b := ⟨_, rfl⟩
  simp only [hb1v] at f1
  obtain ⟨TE, hTE⟩ : ∃ e, ttE l n = e := ⟨_, rfl⟩
  simp only [hTE] at k1 s1
  obtain ⟨SB, hSB⟩ : ∃ b, (sec4 ow.a ow.b ow.c ow.d && offsL l) = b := ⟨_, rfl⟩
  simp only [hSB] at s1
  have H0 := Lib.hid h0
  have HTT := Lib.hid hTT
  have HR := Lib.hid hR
  have HKL := Lib.hid hKL
  have HTE := Lib.hid hTE
  have HSB := Lib.hid hSB
  have HO := Lib.hid o1
  have HO2 := Lib.hid o2
  have HQR := Lib.hid hq1
  have C1 := Lib.hid c1
  have F1 := Lib.hid f1
  have K1 := Lib.hid k1
  have N1 := Lib.hid n1
  have N2 := Lib.hid n2
  have NB := Lib.hid nb
  have NE := Lib.hid ne
  have Q1 := Lib.hid e1
  have DY := Lib.hid dY
  have I1 := Lib.hid i1
  have I2 := Lib.hid i2
  have T1 := Lib.hid t1
  clear c1 f1 k1 n1 n2 nb ne e1 dY i1 i2 t1 hR hq1 o1 o2 h0 h3 hcap hTT hT hz hb1v hTE hSB hKL
  unfold O4.val P2.val Tr.val
  obtain ⟨⟨b0, b1⟩, ⟨p0, p1, p2, p3⟩, ⟨v0, v1⟩, m0, m1, m2⟩ := hS.cells
  cases b1v with
  | false =>
    go_enter Tryz.func6, Tryz.ntmps6
    go_wp2_with (first
      | (go_at_call 9; (with_reducible refine (C1.out _ hS.bel).mono ?_); rintro e X1 ⟨rfl, hb⟩; replace hS := hS.below hb; clear hb b0 b1 p0 p1 p2 p3 v0 v1 m0 m1 m2; obtain ⟨⟨b0, b1⟩, ⟨p0, p1, p2, p3⟩, ⟨v0, v1⟩, m0, m1, m2⟩ := hS.cells)
      | (go_at_call 10; (with_reducible refine (F1.out _ hS.bel).mono ?_); rintro e X2 ⟨rfl, hb⟩; replace hS := hS.below hb; clear hb b0 b1 p0 p1 p2 p3 v0 v1 m0 m1 m2; obtain ⟨⟨b0, b1⟩, ⟨p0, p1, p2, p3⟩, ⟨v0, v1⟩, m0, m1, m2⟩ := hS.cells))
    go_ret
    exact ⟨rfl, hS.bel⟩
  | true =>
    by_cases hTE : TE = 0
    · subst hTE
      have S1 := Lib.hid (s1 rfl)
      clear s1
      cases SB with
      | false =>
        go_enter Tryz.func6, Tryz.ntmps6
        go_wp2_with (first
          | (go_at_call 9; (with_reducible refine (C1.out _ hS.bel).mono ?_); rintro e X1 ⟨rfl, hb⟩; replace hS := hS.below hb; clear hb b0 b1 p0 p1 p2 p3 v0 v1 m0 m1 m2; obtain ⟨⟨b0, b1⟩, ⟨p0, p1, p2, p3⟩, ⟨v0, v1⟩, m0, m1, m2⟩ := hS.cells)
          | (go_at_call 10; (with_reducible refine (F1.out _ hS.bel).mono ?_); rintro e X2 ⟨rfl, hb⟩; replace hS := hS.below hb; clear hb b0 b1 p0 p1 p2 p3 v0 v1 m0 m1 m2; obtain ⟨⟨b0, b1⟩, ⟨p0, p1, p2, p3⟩, ⟨v0, v1⟩, m0, m1, m2⟩ := hS.cells)
          | (go_at_call 20; (with_reducible refine (K1.out _ hS.bel).mono ?_); rintro e X3 ⟨rfl, hb⟩; replace hS := hS.below hb; clear hb b0 b1 p0 p1 p2 p3 v0 v1 m0 m1 m2; obtain ⟨⟨b0, b1⟩, ⟨p0, p1, p2, p3⟩, ⟨v0, v1⟩, m0, m1, m2⟩ := hS.cells)
          | (go_at_call 21; (with_reducible refine (S1.out _ hS.bel).mono ?_); rintro e X4 ⟨⟨u, rfl, hu⟩, hb⟩; replace hS := hS.below hb; clear hb b0 b1 p0 p1 p2 p3 v0 v1 m0 m1 m2; obtain ⟨⟨b0, b1⟩, ⟨p0, p1, p2, p3⟩, ⟨v0, v1⟩, m0, m1, m2⟩ := hS.cells))
        go_ret
        exact ⟨rfl, hS.bel⟩
      | true =>
        rcases NB.out with hz1 | ⟨h, k, hy, H⟩
        · have q1 := Q1.out
          simp only [decide_eq_true hz1] at q1
          have Q1T := Lib.hid q1
          clear q1 hz1
          by_cases hE1 : E = 0
          · subst hE1
            go_enter Tryz.func6, Tryz.ntmps6
            go_wp2_with (first
              | (go_at_call 9; (with_reducible refine (C1.out _ hS.bel).mono ?_); rintro e X1 ⟨rfl, hb⟩; replace hS := hS.below hb; clear hb b0 b1 p0 p1 p2 p3 v0 v1 m0 m1 m2; obtain ⟨⟨b0, b1⟩, ⟨p0, p1, p2, p3⟩, ⟨v0, v1⟩, m0, m1, m2⟩ := hS.cells)
              | (go_at_call 10; (with_reducible refine (F1.out _ hS.bel).mono ?_); rintro e X2 ⟨rfl, hb⟩; replace hS := hS.below hb; clear hb b0 b1 p0 p1 p2 p3 v0 v1 m0 m1 m2; obtain ⟨⟨b0, b1⟩, ⟨p0, p1, p2, p3⟩, ⟨v0, v1⟩, m0, m1, m2⟩ := hS.cells)
              | (go_at_call 20; (with_reducible refine (K1.out _ hS.bel).mono ?_); rintro e X3 ⟨rfl, hb⟩; replace hS := hS.below hb; clear hb b0 b1 p0 p1 p2 p3 v0 v1 m0 m1 m2; obtain ⟨⟨b0, b1⟩, ⟨p0, p1, p2, p3⟩, ⟨v0, v1⟩, m0, m1, m2⟩ := hS.cells)
              | (go_at_call 21; (with_reducible refine (S1.out _ hS.bel).mono ?_); rintro e X4 ⟨⟨u, rfl, hu⟩, hb⟩; replace hu := hu (by trivial); replace hS := hS.below hb; clear hb b0 b1 p0 p1 p2 p3 v0 v1 m0 m1 m2; obtain ⟨⟨b0, b1⟩, ⟨p0, p1, p2, p3⟩, ⟨v0, v1⟩, m0, m1, m2⟩ := hS.cells)
              | (go_at_call 11; (with_reducible refine (N1.out _ _ hS.bel hu).mono ?_); rintro e X5 ⟨rfl, hb⟩; have hlo := (hS.below hb).r3.lt; replace hu := (hu.below hb).mono hb.size; replace hS := hS.below hb; clear hb b0 b1 p0 p1 p2 p3 v0 v1 m0 m1 m2; obtain ⟨⟨b0, b1⟩, ⟨p0, p1, p2, p3⟩, ⟨v0, v1⟩, m0, m1, m2⟩ := hS.cells)
              | (with_reducible refine wpl_here ?_; refine wpList_newF rfl rfl _ rfl rfl _ rfl rfl Y DY.out (by kernel_rfl) (by kernel_rfl) ?_; intro X6 r1 hb; replace hu := (hu.below hb).mono hb.size; replace hS := hS.below hb; clear hb b0 b1 p0 p1 p2 p3 v0 v1 m0 m1 m2)
              | (with_reducible refine wpl_here ?_; refine wpList_load_at (by kernel_rfl) 36 (.tmp 80) rfl X5.heap.size 3 R1 (by kernel_rfl) (T1.out _ _ r1) Tryz.underlying36 rfl I1.out ?_)
              | (with_reducible refine wpl_here ?_; refine wpList_build_at (by kernel_rfl) 36 #[] rfl (retC 0 0 0 0 (zeroD.map bv)).toArray (by kernel_rfl) ?_)
              | (with_reducible refine wpl_here ?_; refine wpList_eql_at (by kernel_rfl) 36 _ (.tmp 81) (.tmp 82) rfl R1.toArray (retC 0 0 0 0 (zeroD.map bv)).toArray (by kernel_rfl) (by kernel_rfl) (by kernel_rfl) true Q1T.out ?_))
            go_ret
            exact ⟨rfl, hS.bel⟩
          · have hY := NE.out hE1
            have q2 := fun W => eqFw HO.out (show zeroF.ok from hY ▸ HO.out) W
            rw [decide_eq_true hY] at q2
            have Q2T := Lib.hid q2
            have ze : (E != 0) = true := bne_iff_ne.2 hE1
            have ze2 : (E == 0) = false := beq_eq_false_iff_ne.2 hE1
            clear q2 hE1 hY
            go_enter Tryz.func6, Tryz.ntmps6
            go_wp2_with (first
              | (go_at_call 9; (with_reducible refine (C1.out _ hS.bel).mono ?_); rintro e X1 ⟨rfl, hb⟩; replace hS := hS.below hb; clear hb b0 b1 p0 p1 p2 p3 v0 v1 m0 m1 m2; obtain ⟨⟨b0, b1⟩, ⟨p0, p1, p2, p3⟩, ⟨v0, v1⟩, m0, m1, m2⟩ := hS.cells)
              | (go_at_call 10; (with_reducible refine (F1.out _ hS.bel).mono ?_); rintro e X2 ⟨rfl, hb⟩; replace hS := hS.below hb; clear hb b0 b1 p0 p1 p2 p3 v0 v1 m0 m1 m2; obtain ⟨⟨b0, b1⟩, ⟨p0, p1, p2, p3⟩, ⟨v0, v1⟩, m0, m1, m2⟩ := hS.cells)
              | (go_at_call 20; (with_reducible refine (K1.out _ hS.bel).mono ?_); rintro e X3 ⟨rfl, hb⟩; replace hS := hS.below hb; clear hb b0 b1 p0 p1 p2 p3 v0 v1 m0 m1 m2; obtain ⟨⟨b0, b1⟩, ⟨p0, p1, p2, p3⟩, ⟨v0, v1⟩, m0, m1, m2⟩ := hS.cells)
              | (go_at_call 21; (with_reducible refine (S1.out _ hS.bel).mono ?_); rintro e X4 ⟨⟨u, rfl, hu⟩, hb⟩; replace hu := hu (by trivial); replace hS := hS.below hb; clear hb b0 b1 p0 p1 p2 p3 v0 v1 m0 m1 m2; obtain ⟨⟨b0, b1⟩, ⟨p0, p1, p2, p3⟩, ⟨v0, v1⟩, m0, m1, m2⟩ := hS.cells)
              | (go_at_call 11; (with_reducible refine (N1.out _ _ hS.bel hu).mono ?_); rintro e X5 ⟨rfl, hb⟩; have hlo := (hS.below hb).r3.lt; replace hu := (hu.below hb).mono hb.size; replace hS := hS.below hb; clear hb b0 b1 p0 p1 p2 p3 v0 v1 m0 m1 m2; obtain ⟨⟨b0, b1⟩, ⟨p0, p1, p2, p3⟩, ⟨v0, v1⟩, m0, m1, m2⟩ := hS.cells)
              | (with_reducible refine wpl_here ?_; refine wpList_newF rfl rfl _ rfl rfl _ rfl rfl Y DY.out (by kernel_rfl) (by kernel_rfl) ?_; intro X6 r1 hb; replace hu := (hu.below hb).mono hb.size; replace hS := hS.below hb; clear hb b0 b1 p0 p1 p2 p3 v0 v1 m0 m1 m2)
              | (with_reducible refine wpl_here ?_; refine wpList_load_at (by kernel_rfl) 38 (.tmp 27) rfl X5.heap.size 0 Y.cells (by kernel_rfl) (range_rowF r1) Tryz.underlying38 rfl I2.out ?_)
              | (with_reducible refine wpl_here ?_; refine wpList_build_at (by kernel_rfl) 38 #[] rfl zeroF.cells.toArray (by kernel_rfl) ?_)
              | (with_reducible refine wpl_here ?_; refine wpList_eql_at (by kernel_rfl) 38 _ (.tmp 88) (.tmp 89) rfl Y.cells.toArray zeroF.cells.toArray (by kernel_rfl) (by kernel_rfl) (by kernel_rfl) true Q2T.out ?_))
            go_ret
            exact ⟨rfl, hS.bel⟩
        · obtain ⟨hk', P, O⟩ := h
          obtain rfl : hk' = 1 := H.dlv
          have hk64 := H.k64
          have hoff : O ≠ office := H.off
          have hcke : ckE s O (idP P) = 0 := H.cke
          have hlt := idxO_ends H.idx
          have hbd := (chkK_0 H.chk).2.2.2.2.2
          have hkk := ckE_at (people := people) hcke hbd
          have halb := aliasA_bd hcke
          have hlb := lineB_len ((ttE_0 H.tt).2.2.1 k hk64.1)
          have hsb := HSB.out
          rw [Bool.and_eq_true] at hsb
          obtain ⟨hsec, hoffs⟩ := hsb
          have hkey := keys_at ow.a ow.b ow.c ow.d hk64.1
          rw [HKL.out, keyO_pow hsec] at hkey
          have hyY : Y = fullF (1, P, O) k (KL.getD k default) (aliasA s P O) r := congrArg Prod.fst hy
          have hE : E = 0 := congrArg Prod.snd hy
          subst hE
          have hag := fun (al2 : Int) (hf : findV s people O al2 = (P, true)) => next_again H al2 hkk hf
          have hv := hk64.2.2.2
          rw [hkey] at hyY hv
          have hofk := fun j (hj : j < (l.getD k default).ol.length) => offs_at hoffs hk64.1 (j := j) hj
          have hseck := fun i => own_sec hsec i
          have hkl := hk64.1
          have hkl64 := hk64.2.1
          have H0W := H0.out
          have hok := H0W.2 k hkl
          obtain ⟨⟨_, A', c', hsv, hEX⟩, _⟩ := H0W
          obtain ⟨bL, oL, rfl, hbb, hEX⟩ := hEX (by omega)
          cases hsv
          obtain ⟨d0, _⟩ := cellsX hEX hkl
          obtain ⟨x, hx⟩ : ∃ x, l.getD k default = x := ⟨_, rfl⟩
          rw [hx] at hlt hlb hyY hv hofk hok d0
          obtain ⟨ov, gv, cl', rm, rv, pv, ol, gl, rl, pl⟩ := x
          simp only at hlt hlb hyY hv hofk d0
          obtain ⟨⟨_, a1, c1, u1, hEI⟩, _⟩ := hok
          simp only at u1 hEI
          subst u1
          obtain ⟨bI, oI, rfl, hbI, hEI⟩ := hEI (by omega)
          obtain ⟨own, hown⟩ : ∃ f, ownO ow.a ow.b ow.c ow.d = f := ⟨_, rfl⟩
          rw [hown] at hyY hv
          simp only [hown] at hseck
          have HOWN := Lib.hid hown
          obtain ⟨AL, hAL⟩ : ∃ y, aliasA s P O = y := ⟨_, rfl⟩
          have a1 := fun (W : World) (hb : Below w.heap.size w W) => alias_any s P O W (HTT.out.below hb)
          rw [hcke] at a1
          rw [hAL] at hyY halb a1
          rw [← leftS_0] at hyY hv
          have hvy : Y.k = 1 ∧ Y.p = P ∧ Y.o = O ∧ Y.line = k := by rw [hyY]; exact ⟨rfl, rfl, rfl, rfl⟩
          have hR1 : R1 = makeC k (powC 4 (leftS own ol 0)) AL r := by rw [← HQR.out, hyY]; simp only [fullF, makeC]
          have oc := fun (W : World) (hb : Below w.heap.size w W) => ocheck_make k (powC 4 (leftS own ol 0)) AL r ⟨by omega, by omega⟩ hv halb W (HTT.out.below hb)
          have ub := fun (hpq : ¬ (elE xw.p = 0 ∧ elE xw.q = 0)) (W : World) (hb : Below w.heap.size w W) => ouse_bad k (powC 4 (leftS own ol 0)) AL r xw.p xw.q m.p m.q m.r ⟨by omega, by omega⟩ hv halb hpq W (HTT.out.below hb)
          have ug := fun (hp : elE xw.p = 0) (hq : elE xw.q = 0) (W : World) (hb : Below w.heap.size w W) => ouse_ok k (powC 4 (leftS own ol 0)) AL r xw.p xw.q m.p m.q m.r ⟨by omega, by omega⟩ hv halb hp hq W (HTT.out.below hb)
          have ul := fun (hp : elE xw.p = 0) (hq : elE xw.q = 0) => use_lt (S := leftS own ol 0) halb hp hq r m.p m.q m.r
          rw [← hR1] at oc
          simp only [← hR1] at ub ug
          have q1 := Q1.out
          have hnz : ¬ backZ Y := by rw [hyY]; exact full_notZ hv
          simp only [decide_eq_false hnz] at q1
          have Q1T := Lib.hid q1
          have fd := fun (W : World) (hb : Below w.heap.size w W) => find_any s people O AL W (HTT.out.below hb)
          rw [hkk] at fd
          have hag := hag AL
          unfold lineTo at hlt
          simp only [Bool.and_eq_true, decide_eq_true_eq] at hlt
          have hl0 := hEI.int (show 0 < ol.length by omega)
          have hl1 := hEI.int (show ol.length - 1 < ol.length by omega)
          rw [hlt.1] at hl0
          rw [show ol.getD (ol.length - 1) default = O from hlt.2] at hl1
          have D0 : Hid (∀ W, Below w.heap.size w W → W.cell? ⟨bL, oL + k * 6, none⟩ = some (.slice (some ⟨bI, oI, none⟩) ol.length c1)) := fun W hb => (hb.cell (p := ⟨bL, oL + k * 6, none⟩) hbb).trans d0
          have L0 : Hid (∀ W, Below w.heap.size w W → W.cell? ⟨bI, oI, none⟩ = some (.int .i64 office) ∧ W.cell? ⟨bI, oI + (ol.length - 1), none⟩ = some (.int .i64 O)) := fun W hb => ⟨(hb.cell (p := ⟨bI, oI, none⟩) hbI).trans hl0, (hb.cell (p := ⟨bI, oI + (ol.length - 1), none⟩) hbI).trans hl1⟩
          have LJ : Hid (∀ j, j < ol.length → ∀ W, Below w.heap.size w W → W.cell? ⟨bI, oI + j, none⟩ = some (.int .i64 (ol.getD j default))) := fun j hj W hb => (hb.cell (p := ⟨bI, oI + j, none⟩) hbI).trans (hEI.int hj)
          have CF : Hid (∀ W G, RX w W n (.slice (some ⟨bL, oL, none⟩) l.length cl) ow xw m G Y → W.cell? ⟨G, 0, none⟩ = some (.int .i64 1) ∧ W.cell? ⟨G, 1, none⟩ = some (.int .i64 P) ∧ W.cell? ⟨G, 2, none⟩ = some (.int .i64 O) ∧ W.cell? ⟨G, 3, none⟩ = some (.int .i64 k)) := fun W G h => by
            have := h.home
            rw [hvy.1, hvy.2.1, hvy.2.2.1, hvy.2.2.2] at this
            exact this
          have OC := Lib.hid oc
          have UB := Lib.hid ub
          have UG := Lib.hid ug
          have UL := Lib.hid ul
          have A1 := Lib.hid a1
          have FD := Lib.hid fd
          have HAG := Lib.hid hag
          have HOFK := Lib.hid hofk
          have HSECK := Lib.hid hseck
          have HLB := Lib.hid hlb
          have HB1 := Lib.hid hbI
          have zo : (O == office) = false := beq_eq_false_iff_ne.2 hoff
          have zk : decide ((k : Int) < 0) = false := decide_eq_false (by omega)
          have zk2 : decide (l.length ≤ k) = false := decide_eq_false (by omega)
          have s1 : (0 : Int) ≤ k := by omega
          have s2 : (k : Int) < l.length := by omega
          have hbb1 := Lib.hid hbb
          clear oc ub ug ul a1 fd hag hofk hseck hlb hEI hl0 hl1 hlt d0 hx hEX hbb hvy hR1 q1 hnz hyY hv halb hAL hkk hbd hcke hoff hkey hy hkl hkl64 hsec hoffs H hown hk64
          go_enter Tryz.func6, Tryz.ntmps6
          go_upto_region 9 with (first
            | (go_at_call 9; (with_reducible refine (C1.out _ hS.bel).mono ?_); rintro e X1 ⟨rfl, hb⟩; replace hS := hS.below hb; clear hb b0 b1 p0 p1 p2 p3 v0 v1 m0 m1 m2; obtain ⟨⟨b0, b1⟩, ⟨p0, p1, p2, p3⟩, ⟨v0, v1⟩, m0, m1, m2⟩ := hS.cells)
            | (go_at_call 10; (with_reducible refine (F1.out _ hS.bel).mono ?_); rintro e X2 ⟨rfl, hb⟩; replace hS := hS.below hb; clear hb b0 b1 p0 p1 p2 p3 v0 v1 m0 m1 m2; obtain ⟨⟨b0, b1⟩, ⟨p0, p1, p2, p3⟩, ⟨v0, v1⟩, m0, m1, m2⟩ := hS.cells)
            | (go_at_call 20; (with_reducible refine (K1.out _ hS.bel).mono ?_); rintro e X3 ⟨rfl, hb⟩; replace hS := hS.below hb; clear hb b0 b1 p0 p1 p2 p3 v0 v1 m0 m1 m2; obtain ⟨⟨b0, b1⟩, ⟨p0, p1, p2, p3⟩, ⟨v0, v1⟩, m0, m1, m2⟩ := hS.cells)
            | (go_at_call 21; (with_reducible refine (S1.out _ hS.bel).mono ?_); rintro e X4 ⟨⟨u, rfl, hu⟩, hb⟩; replace hu := hu (by trivial); replace hS := hS.below hb; clear hb b0 b1 p0 p1 p2 p3 v0 v1 m0 m1 m2; obtain ⟨⟨b0, b1⟩, ⟨p0, p1, p2, p3⟩, ⟨v0, v1⟩, m0, m1, m2⟩ := hS.cells)
            | (go_at_call 11; (with_reducible refine (N1.out _ _ hS.bel hu).mono ?_); rintro e X5 ⟨rfl, hb⟩; have hlo := (hS.below hb).r3.lt; replace hu := (hu.below hb).mono hb.size; replace hS := hS.below hb; clear hb b0 b1 p0 p1 p2 p3 v0 v1 m0 m1 m2; obtain ⟨⟨b0, b1⟩, ⟨p0, p1, p2, p3⟩, ⟨v0, v1⟩, m0, m1, m2⟩ := hS.cells)
            | (with_reducible refine wpl_here ?_; refine wpList_newF rfl rfl _ rfl rfl _ rfl rfl Y DY.out (by kernel_rfl) (by kernel_rfl) ?_; intro X6 r1 hb; replace hu := (hu.below hb).mono hb.size; replace hS := hS.below hb; clear hb b0 b1 p0 p1 p2 p3 v0 v1 m0 m1 m2))
          generalize X5.heap.size = G at *
          have hX : RX w X6 n (.slice (some ⟨bL, oL, none⟩) l.length cl) ow xw m G Y := ⟨hS, r1, hlo⟩
          clear hS r1 hlo C1 F1 K1 S1 N1
          obtain ⟨⟨b0, b1⟩, ⟨p0, p1, p2, p3⟩, ⟨v0, v1⟩, m0, m1, m2⟩ := hX.rs.cells
          obtain ⟨y0, y1, y2, y3⟩ := CF.out _ _ hX
          have d0 := D0.out _ hX.rs.bel
          go_upto_region 14 with (first
            | (with_reducible refine wpl_here ?_; refine wpList_load_at (by kernel_rfl) 36 (.tmp 80) rfl G 3 R1 (by kernel_rfl) (T1.out _ _ hX.rx) Tryz.underlying36 rfl I1.out ?_)
            | (with_reducible refine wpl_here ?_; refine wpList_build_at (by kernel_rfl) 36 #[] rfl (retC 0 0 0 0 (zeroD.map bv)).toArray (by kernel_rfl) ?_)
            | (with_reducible refine wpl_here ?_; refine wpList_eql_at (by kernel_rfl) 36 _ (.tmp 81) (.tmp 82) rfl R1.toArray (retC 0 0 0 0 (zeroD.map bv)).toArray (by kernel_rfl) (by kernel_rfl) (by kernel_rfl) false Q1T.out ?_)
            | (with_reducible refine wpl_here ?_; refine wpList_load_at (by kernel_rfl) 36 (.tmp 119) rfl G 3 R1 (by kernel_rfl) (T1.out _ _ hX.rx) Tryz.underlying36 rfl I1.out ?_)
            | (go_at_call 22; (with_reducible refine (OC.out _ hX.rs.bel).mono ?_); rintro e X7 ⟨rfl, hb⟩; replace hX := hX.below hb; replace hu := (hu.below hb).mono hb.size; clear hb b0 b1 p0 p1 p2 p3 v0 v1 m0 m1 m2 y0 y1 y2 y3 d0; obtain ⟨⟨b0, b1⟩, ⟨p0, p1, p2, p3⟩, ⟨v0, v1⟩, m0, m1, m2⟩ := hX.rs.cells; obtain ⟨y0, y1, y2, y3⟩ := CF.out _ _ hX; have d0 := D0.out _ hX.rs.bel))
          have HX := Lib.hid hX
          clear hX b0 b1 p0 p1 p2 p3 v0 v1 m0 m1 m2 y0 y1 y2 y3 d0
          obtain ⟨e0, e1⟩ := L0.out _ HX.out.rs.bel
          have hl0 := HLB.out
          have hlt1 : bI < X7.heap.size := by have := HB1.out; have := HX.out.rs.bel.size; omega
          have hltG := HX.out.rx.lt
          obtain ⟨y0, y1, y2, y3⟩ := CF.out _ _ HX.out
          have zl : (0 : Int) < ol.length := by omega
          have zl2 : (0 : Int) ≤ (ol.length : Int) - 1 := by omega
          have zl3 : (ol.length : Int) - 1 < ol.length := by omega
          have zl4 : ((ol.length : Int) - 1).toNat = ol.length - 1 := by omega
          have zl5 : (0 : Int) ≤ ol.length := by omega
          have zl6 : ¬ ol = [] := fun h => by rw [h] at hl0; simp at hl0
          have zl7 : ¬ (ol.length : Int) < 1 := by omega
          have zw : IntKind.i64.wrap ((ol.length : Int) - 1) = (ol.length : Int) - 1 := IntWalk.i64_in _ (by omega)
          refine wp_region_det 16 (fun w0 => Below X7.heap.size X7 w0) (by kernel_rfl) (by kernel_rfl) (Below.refl _ _).drew ?_
          refine wpDet_take (v := ?_) rfl (by kernel_rfl) (fun w0 hSw => ?_) ?_
          rotate_left 1
          · have z0 := (hSw.cell (p := ⟨bI, oI, none⟩) hlt1).trans e0; have z1 := (hSw.cell (p := ⟨bI, oI + (ol.length - 1), none⟩) hlt1).trans e1; have z2 := (hSw.cell (p := ⟨G, 2, none⟩) hltG).trans y2
            go_simp
            with_reducible rfl
          simp only [Act.put, List.getElem_toArray, List.getElem_cons_succ, List.getElem_cons_zero, List.setIfInBounds_toArray, List.set_cons_zero, List.set_cons_succ]
          refine wpDet_take (v := .pointer (some ⟨bI, oI, none⟩)) rfl (by kernel_rfl) (fun w0 hSw => ?_) ?_
          · have z0 := (hSw.cell (p := ⟨bI, oI, none⟩) hlt1).trans e0; have z1 := (hSw.cell (p := ⟨bI, oI + (ol.length - 1), none⟩) hlt1).trans e1; have z2 := (hSw.cell (p := ⟨G, 2, none⟩) hltG).trans y2
            go_simp
          simp only [Act.put, List.getElem_toArray, List.getElem_cons_succ, List.getElem_cons_zero, List.setIfInBounds_toArray, List.set_cons_zero, List.set_cons_succ]
          refine wpDet_take (v := .int .i64 office) rfl (by kernel_rfl) (fun w0 hSw => ?_) ?_
          · have z0 := (hSw.cell (p := ⟨bI, oI, none⟩) hlt1).trans e0; have z1 := (hSw.cell (p := ⟨bI, oI + (ol.length - 1), none⟩) hlt1).trans e1; have z2 := (hSw.cell (p := ⟨G, 2, none⟩) hltG).trans y2
            go_simp
          simp only [Act.put, List.getElem_toArray, List.getElem_cons_succ, List.getElem_cons_zero, List.setIfInBounds_toArray, List.set_cons_zero, List.set_cons_succ]
          refine wpDet_take (v := ?_) rfl (by kernel_rfl) (fun w0 hSw => ?_) ?_
          rotate_left 1
          · have z0 := (hSw.cell (p := ⟨bI, oI, none⟩) hlt1).trans e0; have z1 := (hSw.cell (p := ⟨bI, oI + (ol.length - 1), none⟩) hlt1).trans e1; have z2 := (hSw.cell (p := ⟨G, 2, none⟩) hltG).trans y2
            go_simp
            with_reducible rfl
          simp only [Act.put, List.getElem_toArray, List.getElem_cons_succ, List.getElem_cons_zero, List.setIfInBounds_toArray, List.set_cons_zero, List.set_cons_succ]
          refine wpDet_take (v := .bool false) rfl (by kernel_rfl) (fun w0 hSw => ?_) ?_
          · have z0 := (hSw.cell (p := ⟨bI, oI, none⟩) hlt1).trans e0; have z1 := (hSw.cell (p := ⟨bI, oI + (ol.length - 1), none⟩) hlt1).trans e1; have z2 := (hSw.cell (p := ⟨G, 2, none⟩) hltG).trans y2
            go_simp
          simp only [Act.put, List.getElem_toArray, List.getElem_cons_succ, List.getElem_cons_zero, List.setIfInBounds_toArray, List.set_cons_zero, List.set_cons_succ]
          refine wpDet_take (v := ?_) rfl (by kernel_rfl) (fun w0 hSw => ?_) ?_
          rotate_left 1
          · have z0 := (hSw.cell (p := ⟨bI, oI, none⟩) hlt1).trans e0; have z1 := (hSw.cell (p := ⟨bI, oI + (ol.length - 1), none⟩) hlt1).trans e1; have z2 := (hSw.cell (p := ⟨G, 2, none⟩) hltG).trans y2
            go_simp
            with_reducible rfl
          simp only [Act.put, List.getElem_toArray, List.getElem_cons_succ, List.getElem_cons_zero, List.setIfInBounds_toArray, List.set_cons_zero, List.set_cons_succ]
          refine wpDet_take (v := ?_) rfl (by kernel_rfl) (fun w0 hSw => ?_) ?_
          rotate_left 1
          · have z0 := (hSw.cell (p := ⟨bI, oI, none⟩) hlt1).trans e0; have z1 := (hSw.cell (p := ⟨bI, oI + (ol.length - 1), none⟩) hlt1).trans e1; have z2 := (hSw.cell (p := ⟨G, 2, none⟩) hltG).trans y2
            go_simp
            with_reducible rfl
          simp only [Act.put, List.getElem_toArray, List.getElem_cons_succ, List.getElem_cons_zero, List.setIfInBounds_toArray, List.set_cons_zero, List.set_cons_succ]
          refine wpDet_take (v := ?_) rfl (by kernel_rfl) (fun w0 hSw => ?_) ?_
          rotate_left 1
          · have z0 := (hSw.cell (p := ⟨bI, oI, none⟩) hlt1).trans e0; have z1 := (hSw.cell (p := ⟨bI, oI + (ol.length - 1), none⟩) hlt1).trans e1; have z2 := (hSw.cell (p := ⟨G, 2, none⟩) hltG).trans y2
            go_simp
            with_reducible rfl
          simp only [Act.put, List.getElem_toArray, List.getElem_cons_succ, List.getElem_cons_zero, List.setIfInBounds_toArray, List.set_cons_zero, List.set_cons_succ]
          refine wpDet_take (v := ?_) rfl (by kernel_rfl) (fun w0 hSw => ?_) ?_
          rotate_left 1
          · have z0 := (hSw.cell (p := ⟨bI, oI, none⟩) hlt1).trans e0; have z1 := (hSw.cell (p := ⟨bI, oI + (ol.length - 1), none⟩) hlt1).trans e1; have z2 := (hSw.cell (p := ⟨G, 2, none⟩) hltG).trans y2
            go_simp
            with_reducible rfl
          simp only [Act.put, List.getElem_toArray, List.getElem_cons_succ, List.getElem_cons_zero, List.setIfInBounds_toArray, List.set_cons_zero, List.set_cons_succ]
          refine wpDet_take (v := .int .i64 ((ol.length : Int) - 1)) rfl (by kernel_rfl) (fun w0 hSw => ?_) ?_
          · have z0 := (hSw.cell (p := ⟨bI, oI, none⟩) hlt1).trans e0; have z1 := (hSw.cell (p := ⟨bI, oI + (ol.length - 1), none⟩) hlt1).trans e1; have z2 := (hSw.cell (p := ⟨G, 2, none⟩) hltG).trans y2
            go_simp
          simp only [Act.put, List.getElem_toArray, List.getElem_cons_succ, List.getElem_cons_zero, List.setIfInBounds_toArray, List.set_cons_zero, List.set_cons_succ]
          refine wpDet_take (v := .pointer (some ⟨bI, oI + (ol.length - 1), none⟩)) rfl (by kernel_rfl) (fun w0 hSw => ?_) ?_
          · have z0 := (hSw.cell (p := ⟨bI, oI, none⟩) hlt1).trans e0; have z1 := (hSw.cell (p := ⟨bI, oI + (ol.length - 1), none⟩) hlt1).trans e1; have z2 := (hSw.cell (p := ⟨G, 2, none⟩) hltG).trans y2
            go_simp
          simp only [Act.put, List.getElem_toArray, List.getElem_cons_succ, List.getElem_cons_zero, List.setIfInBounds_toArray, List.set_cons_zero, List.set_cons_succ]
          refine wpDet_take (v := .int .i64 O) rfl (by kernel_rfl) (fun w0 hSw => ?_) ?_
          · have z0 := (hSw.cell (p := ⟨bI, oI, none⟩) hlt1).trans e0; have z1 := (hSw.cell (p := ⟨bI, oI + (ol.length - 1), none⟩) hlt1).trans e1; have z2 := (hSw.cell (p := ⟨G, 2, none⟩) hltG).trans y2
            go_simp
          simp only [Act.put, List.getElem_toArray, List.getElem_cons_succ, List.getElem_cons_zero, List.setIfInBounds_toArray, List.set_cons_zero, List.set_cons_succ]
          refine wpDet_take (v := ?_) rfl (by kernel_rfl) (fun w0 hSw => ?_) ?_
          rotate_left 1
          · have z0 := (hSw.cell (p := ⟨bI, oI, none⟩) hlt1).trans e0; have z1 := (hSw.cell (p := ⟨bI, oI + (ol.length - 1), none⟩) hlt1).trans e1; have z2 := (hSw.cell (p := ⟨G, 2, none⟩) hltG).trans y2
            go_simp
            with_reducible rfl
          simp only [Act.put, List.getElem_toArray, List.getElem_cons_succ, List.getElem_cons_zero, List.setIfInBounds_toArray, List.set_cons_zero, List.set_cons_succ]
          refine wpDet_take (v := ?_) rfl (by kernel_rfl) (fun w0 hSw => ?_) ?_
          rotate_left 1
          · have z0 := (hSw.cell (p := ⟨bI, oI, none⟩) hlt1).trans e0; have z1 := (hSw.cell (p := ⟨bI, oI + (ol.length - 1), none⟩) hlt1).trans e1; have z2 := (hSw.cell (p := ⟨G, 2, none⟩) hltG).trans y2
            go_simp
            with_reducible rfl
          simp only [Act.put, List.getElem_toArray, List.getElem_cons_succ, List.getElem_cons_zero, List.setIfInBounds_toArray, List.set_cons_zero, List.set_cons_succ]
          refine wpDet_take (v := .int .i64 O) rfl (by kernel_rfl) (fun w0 hSw => ?_) ?_
          · have z0 := (hSw.cell (p := ⟨bI, oI, none⟩) hlt1).trans e0; have z1 := (hSw.cell (p := ⟨bI, oI + (ol.length - 1), none⟩) hlt1).trans e1; have z2 := (hSw.cell (p := ⟨G, 2, none⟩) hltG).trans y2
            go_simp
          simp only [Act.put, List.getElem_toArray, List.getElem_cons_succ, List.getElem_cons_zero, List.setIfInBounds_toArray, List.set_cons_zero, List.set_cons_succ]
          refine wpDet_take (v := .bool false) rfl (by kernel_rfl) (fun w0 hSw => ?_) ?_
          · have z0 := (hSw.cell (p := ⟨bI, oI, none⟩) hlt1).trans e0; have z1 := (hSw.cell (p := ⟨bI, oI + (ol.length - 1), none⟩) hlt1).trans e1; have z2 := (hSw.cell (p := ⟨G, 2, none⟩) hltG).trans y2
            go_simp
          simp only [Act.put, List.getElem_toArray, List.getElem_cons_succ, List.getElem_cons_zero, List.setIfInBounds_toArray, List.set_cons_zero, List.set_cons_succ]
          refine wpDet_done (fun W8 hW8 => ?_)
          have hX := HX.out.below hW8
          replace hu := (hu.below hW8).mono hW8.size
          clear hW8 HX e0 e1 zl zl2 zl3 zl4 zl5 zl6 zl7 zw hlt1 hltG y0 y1 y2 y3 hl0
          obtain ⟨⟨b0, b1⟩, ⟨p0, p1, p2, p3⟩, ⟨v0, v1⟩, m0, m1, m2⟩ := hX.rs.cells
          obtain ⟨y0, y1, y2, y3⟩ := CF.out _ _ hX
          have d0 := D0.out _ hX.rs.bel
          go_upto_region 17 with (first
            | (go_at_call 13; (with_reducible refine (A1.out _ hX.rs.bel).mono ?_); rintro e X9 ⟨rfl, hb⟩; replace hX := hX.below hb; replace hu := (hu.below hb).mono hb.size; clear hb b0 b1 p0 p1 p2 p3 v0 v1 m0 m1 m2 y0 y1 y2 y3 d0; obtain ⟨⟨b0, b1⟩, ⟨p0, p1, p2, p3⟩, ⟨v0, v1⟩, m0, m1, m2⟩ := hX.rs.cells; obtain ⟨y0, y1, y2, y3⟩ := CF.out _ _ hX; have d0 := D0.out _ hX.rs.bel))
          clear OC Q1T zo zk zk2
          by_cases hpq : elE xw.p = 0 ∧ elE xw.q = 0
          · obtain ⟨hp, hq⟩ := hpq
            have u1 := UG.out hp hq
            obtain ⟨ul1, ul2, ul3⟩ := UL.out hp hq
            simp only [ul1] at u1
            obtain ⟨EE, hEE⟩ : ∃ e : Tr, (⟨elC AL, elC xw.p, elC xw.q⟩ : Tr) = e := ⟨_, rfl⟩
            obtain ⟨TT, hTT⟩ : ∃ t : Tr, (⟨r + m.p, m.q, m.r⟩ : Tr) = t := ⟨_, rfl⟩
            have rd := fun W => read_any (LT (leftS own ol ol.length) EE TT) W
            rw [leftS_all] at rd
            have rr := lt_read ul2 TT
            simp only [hEE] at rr
            rw [rr.1, rr.2] at rd
            rw [hEE] at ul3
            simp only [hEE, hTT] at u1
            have st : ∀ j, j < ol.length → ∀ W, Calls Tryz.prog 24 #[.int .i64 (own (ol.getD j default)), (LT (leftS own ol j) EE TT).val] W fun e w' => e = .returned (.tuple #[(LT (leftS own ol (j + 1)) EE TT).val, .int .i64 0]) ∧ Below W.heap.size W w' := fun j hj W => by
              have := strp_any (own (ol.getD j default)) (LT (leftS own ol j) EE TT) W
              obtain ⟨x1, x2⟩ := lt_strip (S := leftS own ol j) ul3 TT (HSECK.out (ol.getD j default))
              rw [x1, x2, leftS_step own hj] at this
              exact this
            obtain ⟨Lf, hLf⟩ : ∃ f : Nat → Se, (fun j => LT (leftS own ol j) EE TT) = f := ⟨_, rfl⟩
            have hl : ∀ j, LT (leftS own ol j) EE TT = Lf j := fun j => by rw [← hLf]
            have hle : LT 0 EE TT = Lf ol.length := by rw [← hl, leftS_all]
            simp only [hl] at u1 st
            rw [hle] at rd
            unfold Se.val at u1 st rd
            unfold Tr.val at rd
            simp only at rd
            have qt := fun W => runT ⟨AL, xw.p, xw.q⟩ ⟨AL, xw.p, xw.q⟩ W
            rw [show eqTr ⟨AL, xw.p, xw.q⟩ ⟨AL, xw.p, xw.q⟩ = true by unfold eqTr; simp] at qt
            unfold Tr.val at qt
            simp only at qt
            have UU := Lib.hid u1
            have RD := Lib.hid rd
            have ST := Lib.hid st
            have QT := Lib.hid qt
            clear u1 rd st qt hl hle hLf ul1 ul2 ul3 rr hEE hTT UB UG UL HSECK hp hq
            go_wp2_with (first
              | (with_reducible refine wpl_here ?_; refine wpList_load_at (by kernel_rfl) 36 (.tmp 161) rfl G 3 R1 (by kernel_rfl) (T1.out _ _ hX.rx) Tryz.underlying36 rfl I1.out ?_)
              | (go_at_call 23; (with_reducible refine (UU.out _ hX.rs.bel).mono ?_); rintro e XA ⟨rfl, hb⟩; replace hX := hX.below hb; replace hu := (hu.below hb).mono hb.size; clear hb b0 b1 p0 p1 p2 p3 v0 v1 m0 m1 m2 y0 y1 y2 y3 d0; obtain ⟨⟨b0, b1⟩, ⟨p0, p1, p2, p3⟩, ⟨v0, v1⟩, m0, m1, m2⟩ := hX.rs.cells; obtain ⟨y0, y1, y2, y3⟩ := CF.out _ _ hX; have d0 := D0.out _ hX.rs.bel))
            have hR := RL.new hX (Lf 0)
            have HU := Lib.hid hu
            clear hX hu b0 b1 p0 p1 p2 p3 v0 v1 m0 m1 m2 y0 y1 y2 y3 d0
            go_loopg [174] ol.length (fun gg iv wr => ∃ j : Nat, iv = .int .i64 j ∧ j + gg = ol.length ∧ RL XA w wr n (.slice (some ⟨bL, oL, none⟩) l.length cl) ow xw m G Y XA.heap.size (Lf j))
            case atStart => exact ⟨0, rfl, by omega, hR⟩
            case round =>
              clear hR
              obtain ⟨j, rfl, hjg, hR⟩ := hrel
              have HRR := Lib.hid hR
              by_cases hjt : j < ol.length
              · have l0 := LJ.out j hjt _ hR.x.rs.bel
                have stj := ST.out j hjt
                obtain ⟨ko, hko, hk4, hcell⟩ := off_at hR.x.rs.r1 (HOFK.out j hjt)
                rw [HOWN.out] at hcell
                obtain ⟨o, ho⟩ : ∃ o, ol.getD j default = o := ⟨_, rfl⟩
                rw [ho] at l0 stj hko hk4 hcell
                subst hko
                obtain ⟨Q, hQ⟩ : ∃ Q, own (ko : Int) = Q := ⟨_, rfl⟩
                rw [hQ] at stj hcell
                have STJ := Lib.hid stj
                have s3 : (0 : Int) ≤ j := by omega
                have s4 : (j : Int) < ol.length := by omega
                have s5 : (0 : Int) ≤ ko := by omega
                have s6 : (ko : Int) < 4 := by omega
                have hltO := hR.x.rs.r1.lt
                have hltH := hR.rl.lt
                obtain ⟨⟨g0, g1, g2, g3, g4, g5⟩, _⟩ := hR.letter
                clear hR stj hQ ho hk4
                go_upto_region 23 with fail
                refine wp_region_tree 9 (.take 0 (.take 1 (.take 2 (.one 3 (.one 4 (.take 5 (.take 6 (.take 7 (.one 8 .done))))))))) (fun w0 => w0.cell? ⟨w.heap.size + 1, ko, none⟩ = some (.int .i64 Q)) (by kernel_rfl) (by kernel_rfl) (fun _ _ d _ _ h => by cases d <;> exact h) (((Below.refl wr.heap.size wr).drew.cell (p := ⟨w.heap.size + 1, ko, none⟩) hltO).trans hcell) ?_
                have hR := HRR.out.below (Below.refl wr.heap.size wr).drew
                replace hcell := ((Below.refl wr.heap.size wr).drew.cell (p := ⟨w.heap.size + 1, ko, none⟩) hltO).trans hcell
                have hlH : w.heap.size + 1 < XA.heap.size := by have := hR.x.lo; have := hR.hi; omega
                clear HRR hltO hltH g0 g1 g2 g3 g4 g5
                generalize wr.drew = V1 at *
                refine wpTree_take (v := ?_) rfl (by kernel_rfl) (fun w0 hSw => ?_) ?_
                rotate_left 1
                · go_simp
                  with_reducible rfl
                simp only [Act.put, List.getElem_toArray, List.getElem_cons_succ, List.getElem_cons_zero, List.setIfInBounds_toArray, List.set_cons_zero, List.set_cons_succ]
                refine wpTree_take (v := .pointer (some ⟨w.heap.size + 1, ko, none⟩)) rfl (by kernel_rfl) (fun w0 hSw => ?_) ?_
                · go_simp
                simp only [Act.put, List.getElem_toArray, List.getElem_cons_succ, List.getElem_cons_zero, List.setIfInBounds_toArray, List.set_cons_zero, List.set_cons_succ]
                refine wpTree_take (v := .int .i64 Q) rfl (by kernel_rfl) (fun w0 hSw => ?_) ?_
                · go_simp
                simp only [Act.put, List.getElem_toArray, List.getElem_cons_succ, List.getElem_cons_zero, List.setIfInBounds_toArray, List.set_cons_zero, List.set_cons_succ]
                refine wpTree_one rfl (fun K hK => ⟨by kernel_rfl, ?_⟩) 
                obtain ⟨⟨g0, g1, g2, g3, g4, g5⟩, _⟩ := hR.letter
                go_simp
                refine hK _ _ hcell ?_
                clear hK K g0 g1 g2 g3 g4 g5
                try simp only [Act.put, List.getElem_toArray, List.getElem_cons_succ, List.getElem_cons_zero, List.setIfInBounds_toArray, List.set_cons_zero, List.set_cons_succ]
                refine wpTree_one rfl (fun K hK => ⟨by kernel_rfl, ?_⟩)
                go_simp
                go_at_call 24
                refine (STJ.out _).mono ?_
                rintro e V2 ⟨rfl, hb⟩
                replace hcell := (hb.cell (p := ⟨w.heap.size + 1, ko, none⟩) hR.x.rs.r1.lt).trans hcell
                replace hR := hR.below hb
                refine hK _ _ hcell ?_
                clear hK K hb
                try simp only [Act.put, List.getElem_toArray, List.getElem_cons_succ, List.getElem_cons_zero, List.setIfInBounds_toArray, List.set_cons_zero, List.set_cons_succ]
                refine wpTree_take (v := ?_) rfl (by kernel_rfl) (fun w0 hSw => ?_) ?_
                rotate_left 1
                · go_simp
                  with_reducible rfl
                simp only [Act.put, List.getElem_toArray, List.getElem_cons_succ, List.getElem_cons_zero, List.setIfInBounds_toArray, List.set_cons_zero, List.set_cons_succ]
                refine wpTree_take (v := ?_) rfl (by kernel_rfl) (fun w0 hSw => ?_) ?_
                rotate_left 1
                · go_simp
                  with_reducible rfl
                simp only [Act.put, List.getElem_toArray, List.getElem_cons_succ, List.getElem_cons_zero, List.setIfInBounds_toArray, List.set_cons_zero, List.set_cons_succ]
                refine wpTree_take (v := ?_) rfl (by kernel_rfl) (fun w0 hSw => ?_) ?_
                rotate_left 1
                · go_simp
                  with_reducible rfl
                simp only [Act.put, List.getElem_toArray, List.getElem_cons_succ, List.getElem_cons_zero, List.setIfInBounds_toArray, List.set_cons_zero, List.set_cons_succ]
                have HR2 := Lib.hid hR
                obtain ⟨⟨g0, g1, g2, g3, g4, g5⟩, f0, f1, f2, f3, f4, f5⟩ := hR.letter
                clear hR
                refine wpTree_one rfl (fun K hK => ⟨by kernel_rfl, ?_⟩)
                go_simp
                refine hK _ _ (((((((((Below.refl XA.heap.size V2).setCell (p := ⟨XA.heap.size, 0, none⟩) (Nat.le_refl _) _).setCell (p := ⟨XA.heap.size, 1, none⟩) (Nat.le_refl _) _).setCell (p := ⟨XA.heap.size, 2, none⟩) (Nat.le_refl _) _).setCell (p := ⟨XA.heap.size, 3, none⟩) (Nat.le_refl _) _).setCell (p := ⟨XA.heap.size, 4, none⟩) (Nat.le_refl _) _).setCell (p := ⟨XA.heap.size, 5, none⟩) (Nat.le_refl _) _).cell (p := ⟨w.heap.size + 1, ko, none⟩) hlH).trans hcell) ?_
                clear hK K l0 hcell s3 s4 s5 s6 hlH
                try simp only [Act.put, List.getElem_toArray, List.getElem_cons_succ, List.getElem_cons_zero, List.setIfInBounds_toArray, List.set_cons_zero, List.set_cons_succ]
                refine wpTree_done ?_
                simp only [List.drop_succ_cons, List.drop_zero]
                go_wp2_with fail
                go_roundg (gk - 1)
                case measure => omega
                case rel => exact ⟨j + 1, by first | rfl | go_num, by omega, HR2.out.set (Lf (j + 1))⟩
              · obtain rfl : j = ol.length := by omega
                have hX := hR.x
                have hu := (HU.out.below hR.bk).mono hR.bk.size
                obtain ⟨⟨g0, g1, g2, g3, g4, g5⟩, _⟩ := hR.letter
                clear hR HRR hjg hjt
                obtain ⟨⟨b0, b1⟩, ⟨p0, p1, p2, p3⟩, ⟨v0, v1⟩, m0, m1, m2⟩ := hX.rs.cells
                obtain ⟨y0, y1, y2, y3⟩ := CF.out _ _ hX
                have d0 := D0.out _ hX.rs.bel
                go_upto_region 28 with (first
                  | (go_at_call 25; (with_reducible refine (RD.out _).mono ?_); rintro e XB ⟨rfl, hb⟩; replace hX := hX.below hb; replace hu := (hu.below hb).mono hb.size; clear hb b0 b1 p0 p1 p2 p3 v0 v1 m0 m1 m2 y0 y1 y2 y3 d0; obtain ⟨⟨b0, b1⟩, ⟨p0, p1, p2, p3⟩, ⟨v0, v1⟩, m0, m1, m2⟩ := hX.rs.cells; obtain ⟨y0, y1, y2, y3⟩ := CF.out _ _ hX; have d0 := D0.out _ hX.rs.bel))
                have hb := below_alloc' XB (.cells #[.int .i64 AL, .int .i64 xw.p, .int .i64 xw.q] 74)
                have rw := Row.new XB 74 [.int .i64 AL, .int .i64 xw.p, .int .i64 xw.q]
                generalize XB.heap.size = GW at rw ⊢
                generalize XB.alloc (.cells #[.int .i64 AL, .int .i64 xw.p, .int .i64 xw.q] 74) = XC at *
                replace hX := hX.below hb; replace hu := (hu.below hb).mono hb.size; clear hb b0 b1 p0 p1 p2 p3 v0 v1 m0 m1 m2 y0 y1 y2 y3 d0; obtain ⟨⟨b0, b1⟩, ⟨p0, p1, p2, p3⟩, ⟨v0, v1⟩, m0, m1, m2⟩ := hX.rs.cells; obtain ⟨y0, y1, y2, y3⟩ := CF.out _ _ hX; have d0 := D0.out _ hX.rs.bel
                have q0 := rw.cell 0
                have q1 := rw.cell 1
                have q2 := rw.cell 2
                go_upto_region 30 with (first
                  | (with_reducible refine wpl_here ?_; refine wpList_neq_at (by kernel_rfl) 74 _ (.tmp 201) (.tmp 207) rfl #[.int .i64 AL, .int .i64 xw.p, .int .i64 xw.q] #[.int .i64 AL, .int .i64 xw.p, .int .i64 xw.q] (by kernel_rfl) (by kernel_rfl) (by kernel_rfl) true QT.out ?_))
                clear q0 q1 q2 rw
                obtain ⟨⟨q, fb⟩, hq⟩ : ∃ q, findV s people O AL = q := ⟨_, rfl⟩
                have fq := FD.out
                rw [hq] at fq
                have FQ := Lib.hid fq
                clear fq
                cases fb with
                | false =>
                  go_wp2_with (first
                    | (go_at_call 18; (with_reducible refine (FQ.out _ hX.rs.bel).mono ?_); rintro e XD ⟨rfl, hb⟩; replace hX := hX.below hb; replace hu := (hu.below hb).mono hb.size; clear hb b0 b1 p0 p1 p2 p3 v0 v1 m0 m1 m2 y0 y1 y2 y3 d0; obtain ⟨⟨b0, b1⟩, ⟨p0, p1, p2, p3⟩, ⟨v0, v1⟩, m0, m1, m2⟩ := hX.rs.cells; obtain ⟨y0, y1, y2, y3⟩ := CF.out _ _ hX; have d0 := D0.out _ hX.rs.bel))
                  go_ret
                  exact ⟨rfl, hX.rs.bel⟩
                | true =>
                  by_cases hqP : q = P
                  · subst hqP
                    have hn := HAG.out hq
                    have n3 := fun (kv : Value) (W : World) (hb : Below w.heap.size w W) (hk : SlI W W.heap.size kv KL) => N2.out O AL kv W hb hk
                    have o3 := nextR_wf l n KL s en people O AL day time r
                    rw [hn] at o3
                    simp only [hn] at n3 o3
                    have q3 := fun W => eqFw o3 o3 W
                    rw [decide_eq_true (rfl : homeF (1, q, O) = homeF (1, q, O))] at q3
                    have Q3 := Lib.hid q3
                    have N3 := Lib.hid n3
                    clear q3 n3 o3 hn hq
                    go_wp2_with (first
                      | (go_at_call 18; (with_reducible refine (FQ.out _ hX.rs.bel).mono ?_); rintro e XD ⟨rfl, hb⟩; replace hX := hX.below hb; replace hu := (hu.below hb).mono hb.size; clear hb b0 b1 p0 p1 p2 p3 v0 v1 m0 m1 m2 y0 y1 y2 y3 d0; obtain ⟨⟨b0, b1⟩, ⟨p0, p1, p2, p3⟩, ⟨v0, v1⟩, m0, m1, m2⟩ := hX.rs.cells; obtain ⟨y0, y1, y2, y3⟩ := CF.out _ _ hX; have d0 := D0.out _ hX.rs.bel)
                      | (go_at_call 11; (with_reducible refine (N3.out _ _ hX.rs.bel hu).mono ?_); rintro e XE ⟨rfl, hb⟩; replace hX := hX.below hb; replace hu := (hu.below hb).mono hb.size; clear hb b0 b1 p0 p1 p2 p3 v0 v1 m0 m1 m2 y0 y1 y2 y3 d0; obtain ⟨⟨b0, b1⟩, ⟨p0, p1, p2, p3⟩, ⟨v0, v1⟩, m0, m1, m2⟩ := hX.rs.cells; obtain ⟨y0, y1, y2, y3⟩ := CF.out _ _ hX; have d0 := D0.out _ hX.rs.bel)
                      | (with_reducible refine wpl_here ?_; refine wpList_newF rfl rfl _ rfl rfl _ rfl rfl (homeF (1, q, O)) rfl (by kernel_rfl) (by kernel_rfl) ?_; intro XF r2 hb; replace hX := hX.below hb; replace hu := (hu.below hb).mono hb.size; clear hb b0 b1 p0 p1 p2 p3 v0 v1 m0 m1 m2 y0 y1 y2 y3 d0; obtain ⟨⟨b0, b1⟩, ⟨p0, p1, p2, p3⟩, ⟨v0, v1⟩, m0, m1, m2⟩ := hX.rs.cells; obtain ⟨y0, y1, y2, y3⟩ := CF.out _ _ hX; have d0 := D0.out _ hX.rs.bel)
                      | (with_reducible refine wpl_here ?_; refine wpList_load_at (by kernel_rfl) 38 (.tmp 41) rfl XE.heap.size 0 (homeF (1, q, O)).cells (by kernel_rfl) (range_rowF r2) Tryz.underlying38 rfl (by kernel_rfl) ?_)
                      | (with_reducible refine wpl_here ?_; refine wpList_build_at (by kernel_rfl) 38 #[(0, .tmp 257)] rfl (homeF (1, q, O)).cells.toArray (by kernel_rfl) ?_)
                      | (with_reducible refine wpl_here ?_; refine wpList_eql_at (by kernel_rfl) 38 _ (.tmp 255) (.tmp 258) rfl (homeF (1, q, O)).cells.toArray (homeF (1, q, O)).cells.toArray (by kernel_rfl) (by kernel_rfl) (by kernel_rfl) true Q3.out ?_))
                    go_ret
                    exact ⟨rfl, hX.rs.bel⟩
                  · have zq : (q != P) = true := bne_iff_ne.2 hqP
                    clear hqP
                    go_wp2_with (first
                      | (go_at_call 18; (with_reducible refine (FQ.out _ hX.rs.bel).mono ?_); rintro e XD ⟨rfl, hb⟩; replace hX := hX.below hb; replace hu := (hu.below hb).mono hb.size; clear hb b0 b1 p0 p1 p2 p3 v0 v1 m0 m1 m2 y0 y1 y2 y3 d0; obtain ⟨⟨b0, b1⟩, ⟨p0, p1, p2, p3⟩, ⟨v0, v1⟩, m0, m1, m2⟩ := hX.rs.cells; obtain ⟨y0, y1, y2, y3⟩ := CF.out _ _ hX; have d0 := D0.out _ hX.rs.bel))
                    go_ret
                    exact ⟨rfl, hX.rs.bel⟩
          · have u1 := UB.out hpq
            rw [show (default : Se).val = .agg #[.int .i64 0, .int .i64 0, .int .i64 0, .int .i64 0, .int .i64 0, .int .i64 0] from rfl] at u1
            have UU := Lib.hid u1
            clear u1 hpq UB UG UL HSECK
            go_wp2_with (first
              | (with_reducible refine wpl_here ?_; refine wpList_load_at (by kernel_rfl) 36 (.tmp 161) rfl G 3 R1 (by kernel_rfl) (T1.out _ _ hX.rx) Tryz.underlying36 rfl I1.out ?_)
              | (go_at_call 23; (with_reducible refine (UU.out _ hX.rs.bel).mono ?_); rintro e XA ⟨rfl, hb⟩; replace hX := hX.below hb; replace hu := (hu.below hb).mono hb.size; clear hb b0 b1 p0 p1 p2 p3 v0 v1 m0 m1 m2 y0 y1 y2 y3 d0; obtain ⟨⟨b0, b1⟩, ⟨p0, p1, p2, p3⟩, ⟨v0, v1⟩, m0, m1, m2⟩ := hX.rs.cells; obtain ⟨y0, y1, y2, y3⟩ := CF.out _ _ hX; have d0 := D0.out _ hX.rs.bel))
            go_ret
            exact ⟨rfl, hX.rs.bel.alloc hX.rs.bel.size _⟩

    · have zt : (TE != 0) = true := bne_iff_ne.2 hTE
      clear hTE s1
      go_enter Tryz.func6, Tryz.ntmps6
      go_wp2_with (first
        | (go_at_call 9; (with_reducible refine (C1.out _ hS.bel).mono ?_); rintro e X1 ⟨rfl, hb⟩; replace hS := hS.below hb; clear hb b0 b1 p0 p1 p2 p3 v0 v1 m0 m1 m2; obtain ⟨⟨b0, b1⟩, ⟨p0, p1, p2, p3⟩, ⟨v0, v1⟩, m0, m1, m2⟩ := hS.cells)
        | (go_at_call 10; (with_reducible refine (F1.out _ hS.bel).mono ?_); rintro e X2 ⟨rfl, hb⟩; replace hS := hS.below hb; clear hb b0 b1 p0 p1 p2 p3 v0 v1 m0 m1 m2; obtain ⟨⟨b0, b1⟩, ⟨p0, p1, p2, p3⟩, ⟨v0, v1⟩, m0, m1, m2⟩ := hS.cells)
        | (go_at_call 20; (with_reducible refine (K1.out _ hS.bel).mono ?_); rintro e X3 ⟨rfl, hb⟩; replace hS := hS.below hb; clear hb b0 b1 p0 p1 p2 p3 v0 v1 m0 m1 m2; obtain ⟨⟨b0, b1⟩, ⟨p0, p1, p2, p3⟩, ⟨v0, v1⟩, m0, m1, m2⟩ := hS.cells))
      go_ret
      exact ⟨rfl, hS.bel⟩
end Go.Proofs.YthckledagggoiaaGreatDoor
