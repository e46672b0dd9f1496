import Derived.Test.YthckledagggoiaaGreatDoorFs6
import Derived.Deep.LoopGhost
set_option linter.unusedSimpArgs false
set_option linter.unusedVariables false
namespace Go.Proofs.YthckledagggoiaaGreatDoor
open Go.RowKit Go.Shelf Fk Sha
/-! ForwardSame -/
set_option maxRecDepth 100000 in
set_option maxHeartbeats 16000000 in
theorem forwardSame_walk (l : List Lx) (x : Int × Value) (key s : Int) (en : List En) (ev : Value) (em : List En) (mv : Value) (people office al day time r : Int) (w : World) (hT : Tab w) (hz : 1 < w.heap.size ∧ 0 < w.heap.size)
    (h0 : SlX w w.heap.size x.2 l) (h3 : SlE w w.heap.size ev en) (h4 : SlE w w.heap.size mv em) (hcap : capX l) (_ : (Lit.int .i64 key).wf = true) (_ : (Lit.int .i64 s).wf = true) (_ : True) (_ : True)
    (_ : (Lit.int .i64 people).wf = true) (_ : (Lit.int .i64 office).wf = true) (_ : (Lit.int .i64 al).wf = true) (_ : (Lit.int .i64 day).wf = true) (_ : (Lit.int .i64 time).wf = true) (_ : (Lit.int .i64 r).wf = true) :
    Calls Tryz.prog 4 #[ttV x.1 x.2, .int .i64 key, .int .i64 s, ev, mv, .int .i64 people, .int .i64 office, .int .i64 al, .int .i64 day, .int .i64 time, .int .i64 r] w fun e w' => e = .returned (.bool true) ∧ Below w.heap.size w w' := by
  have hTT : TabOK w := ⟨hT, hz⟩
  obtain ⟨n, v⟩ := x
  obtain ⟨A, c, rfl⟩ : ∃ A c, ev = .slice A en.length c := by obtain ⟨_, A, c, h, _⟩ := h3; exact ⟨A, c, h⟩
  obtain ⟨A2, c2, rfl⟩ : ∃ A c, mv = .slice A em.length c := by obtain ⟨_, A, c, h, _⟩ := h4; exact ⟨A, c, h⟩
  obtain ⟨Al, cl, rfl⟩ : ∃ A c, v = .slice A l.length c := by obtain ⟨⟨_, A, c, h, _⟩, _⟩ := h0; exact ⟨A, c, h⟩
  have c1 := fun (W : World) (hb : Below w.heap.size w W) => sane36_any W (hTT.below hb)
  have f1 := fun (W : World) (hb : Below w.heap.size w W) => rfew36_any l n (.slice Al l.length cl) none 0 0 A en.length c people W (h0.below hb) hcap
  have f2 := fun (W : World) (hb : Below w.heap.size w W) => rfew36_any l n (.slice Al l.length cl) none 0 0 A2 em.length c2 people W (h0.below hb) hcap
  have n1 := fun (kv : Value) (W : World) (hb : Below w.heap.size w W) (hk : SlI W W.heap.size kv (List.replicate l.length key)) => next_any l n (.slice Al l.length cl) (List.replicate l.length key) kv s en (.slice A en.length c) people office al day time r W (hTT.below hb) (h0.below hb) hk ((h3.below hb).mono hb.size)
  have n2 := fun (kv : Value) (W : World) (hb : Below w.heap.size w W) (hk : SlI W W.heap.size kv (List.replicate l.length key)) => next_any l n (.slice Al l.length cl) (List.replicate l.length key) kv s em (.slice A2 em.length c2) people office al day time r W (hTT.below hb) (h0.below hb) hk ((h4.below hb).mono hb.size)
  have a1 := fun (p o : Int) (W : World) (hb : Below w.heap.size w W) => alias_any s p o W (hTT.below hb)
  have k1 := nextR_back l n (List.replicate l.length key) s en people office al day time r
  have k2 := nextR_back l n (List.replicate l.length key) s em people office al day time r
  have o1 := nextR_ok l n (List.replicate l.length key) s en people office al day time r
  have o2 := nextR_ok l n (List.replicate l.length key) s em people office al day time r
  obtain ⟨⟨Y1, E1⟩, hR1⟩ : ∃ p, nextR l n (List.replicate l.length key) s en people office al day time r = p := ⟨_, rfl⟩
  obtain ⟨⟨Y2, E2⟩, hR2⟩ : ∃ p, nextR l n (List.replicate l.length key) s em people office al day time r = p := ⟨_, rfl⟩
  rw [hR1] at n1 k1 o1
  rw [hR2] at n2 k2 o2
  simp only at n1 n2 k1 k2 o1 o2
  have e1 := fun W => eqBack o1 W
  have e2 := fun W => eqBack o2 W
  have d1 := o1.2.2.2.2
  have d2 := o2.2.2.2.2
  have i1 : (Tryz.prog.info? 36).map (·.size) = some (retC Y1.line Y1.key Y1.a Y1.b (Y1.ds.map bv)).length := by rw [back_len o1]; kernel_rfl
  have i2 : (Tryz.prog.info? 36).map (·.size) = some (retC Y2.line Y2.key Y2.a Y2.b (Y2.ds.map bv)).length := by rw [back_len o2]; kernel_rfl
  have t1 := fun (W : World) (g : Nat) (h : Row W g 38 Y1.cells) => range_back h
  have t2 := fun (W : World) (g : Nat) (h : Row W g 38 Y2.cells) => range_back h
  have u1 := fun (W : World) (g : Nat) (h : Row W g 38 Y1.cells) => cells12 h
  have u2 := fun (W : World) (g : Nat) (h : Row W g 38 Y2.cells) => cells12 h
  obtain ⟨R1, hq1⟩ : ∃ R, retC Y1.line Y1.key Y1.a Y1.b (Y1.ds.map bv) = R := ⟨_, rfl⟩
  obtain ⟨R2, hq2⟩ : ∃ R, retC Y2.line Y2.key Y2.a Y2.b (Y2.ds.map bv) = R := ⟨_, rfl⟩
  simp only [hq1] at e1 t1
  simp only [hq2] at e2 t2
  rw [hq1] at i1
  rw [hq2] at i2
  have hS := TS.start w n (.slice Al l.length cl)
  have H0 := Lib.hid h0
  have hfl : few36 l 0 en.length people = true → l.length ≤ 100 := fun h => few_len (by unfold few36 at h; rw [Bool.and_eq_true] at h; exact h.1)
  obtain ⟨b1v, hb1v⟩ : ∃ b, few36 l 0 en.length people = b := ⟨_, rfl⟩
  obtain ⟨b2v, hb2v⟩ : ∃ b, few36 l 0 em.length people = b := ⟨_, rfl⟩
  rw [hb1v] at hfl
  simp only [hb1v] at f1
  simp only [hb2v] at f2
  have C1 := Lib.hid c1
  have F1 := Lib.hid f1
  have F2 := Lib.hid f2
  have N1 := Lib.hid n1
  have N2 := Lib.hid n2
  have AL := Lib.hid a1
  have K1 := Lib.hid k1
  have K2 := Lib.hid k2
  have Q1 := Lib.hid e1
  have Q2 := Lib.hid e2
  have D1 := Lib.hid d1
  have D2 := Lib.hid d2
  have I1 := Lib.hid i1
  have I2 := Lib.hid i2
  have T1 := Lib.hid t1
  have T2 := Lib.hid t2
  have U1 := Lib.hid u1
  have U2 := Lib.hid u2
  clear c1 f1 f2 n1 n2 a1 k1 k2 e1 e2 d1 d2 i1 i2 t1 t2 u1 u2 hR1 hR2 hq1 hq2 o1 o2 h0 h3 h4 hcap hTT hT hz hb1v hb2v
  obtain ⟨b0, b1⟩ := hS.cells
  have hlt0 := hS.row.lt
  clear hlt0
  cases b1v with
  | false =>
    clear hfl
    go_enter Tryz.func4, Tryz.ntmps4
    go_wp2_with (first
      | (go_at_call 9; (with_reducible refine (C1.out _ hS.bel).mono ?_); rintro e X1 ⟨rfl, hb⟩; replace hS := hS.below hb; clear hb b0 b1; obtain ⟨b0, b1⟩ := hS.cells)
      | (go_at_call 10; (with_reducible refine (F1.out _ hS.bel).mono ?_); rintro e X2 ⟨rfl, hb⟩; replace hS := hS.below hb; clear hb b0 b1; obtain ⟨b0, b1⟩ := hS.cells))
    go_ret
    exact ⟨rfl, hS.bel⟩
  | true =>
    cases b2v with
    | false =>
      clear hfl
      go_enter Tryz.func4, Tryz.ntmps4
      go_wp2_with (first
      | (go_at_call 9; (with_reducible refine (C1.out _ hS.bel).mono ?_); rintro e X1 ⟨rfl, hb⟩; replace hS := hS.below hb; clear hb b0 b1; obtain ⟨b0, b1⟩ := hS.cells)
      | (go_at_call 10; (with_reducible refine (F1.out _ hS.bel).mono ?_); rintro e X2 ⟨rfl, hb⟩; replace hS := hS.below hb; clear hb b0 b1; obtain ⟨b0, b1⟩ := hS.cells)
      | (go_at_call 10; (with_reducible refine (F2.out _ hS.bel).mono ?_); rintro e X3 ⟨rfl, hb⟩; replace hS := hS.below hb; clear hb b0 b1; obtain ⟨b0, b1⟩ := hS.cells))
      go_ret
      exact ⟨rfl, hS.bel⟩
    | true =>
      have hl100 := hfl rfl
      clear hfl
      go_enter Tryz.func4, Tryz.ntmps4
      go_wp2_with (first
      | (go_at_call 9; (with_reducible refine (C1.out _ hS.bel).mono ?_); rintro e X1 ⟨rfl, hb⟩; replace hS := hS.below hb; clear hb b0 b1; obtain ⟨b0, b1⟩ := hS.cells)
      | (go_at_call 10; (with_reducible refine (F1.out _ hS.bel).mono ?_); rintro e X2 ⟨rfl, hb⟩; replace hS := hS.below hb; clear hb b0 b1; obtain ⟨b0, b1⟩ := hS.cells)
      | (go_at_call 10; (with_reducible refine (F2.out _ hS.bel).mono ?_); rintro e X3 ⟨rfl, hb⟩; replace hS := hS.below hb; clear hb b0 b1; obtain ⟨b0, b1⟩ := hS.cells))
      obtain ⟨i0, hi, hz0, hz1, hz2⟩ := info_parts infoInF
      clear b0 b1
      go_loopg [23, 57] l.length (fun gg kv iv wr => ∃ k : Nat, iv = .int .i64 k ∧ k + gg = l.length ∧ Below X3.heap.size X3 wr ∧ wr.ownsRow X3.heap.size 3 1 kv k ((List.replicate k key).map (Value.int .i64)))
      case atStart => exact ⟨0, rfl, by omega, Below.refl _ _, World.ownsRow_nil _ _ _ _⟩
      case round =>
        obtain ⟨k, rfl, hkg, hBr, hx⟩ := hrel
        obtain ⟨xo, rfl⟩ : ∃ xo : Value, xo = u23 := ⟨_, rfl⟩
        have hszr := hBr.size
        by_cases hlt : k < l.length
        · have s1 : (k : Int) < l.length := by omega
          have HX := Lib.hid hx
          clear hx
          go_wp2_with (at_builtin; (refine wpList_append_own _ rfl _ _ 25 rfl X3.heap.size 3 i0 (.int .i64 0) 1 8 Tryz.underlying25 hi hz0 hz1 hz2 rfl (by decide) _ _ _ rfl (HX.out.alloc _) ⟨wr.heap.size, 0, none⟩ 1 1 [.int .i64 key] rfl rfl (cells_new wr 3 [.int .i64 key]) (by simp [Value.oneCell']) (by unfold maxLen; omega) (by omega) (by simp; omega) ?_; intro v' w2 hown' hgrow _))
          go_roundg (gk - 1)
          case measure => omega
          case rel =>
            refine ⟨k + 1, by first | rfl | go_num, by omega, (hBr.alloc hszr (.cells #[.int .i64 key] 3)).grown hgrow (by simp; omega) (fun r e => (HX.out.lt r e).1), ?_⟩
            have e : (List.replicate (k + 1) key).map (Value.int .i64) = (List.replicate k key).map (Value.int .i64) ++ [.int .i64 key] := by rw [List.replicate_succ', List.map_append]; rfl
            rw [e]; exact hown'
        · obtain rfl : k = l.length := by omega
          have hkv := own_rep hx (by omega)
          replace hS := hS.below hBr
          clear hBr hx hi hz0 hz1 hz2
          obtain ⟨b0, b1⟩ := hS.cells
          go_upto_region 11 with (first
            | (go_at_call 11; (with_reducible refine (N1.out _ _ hS.bel hkv).mono ?_); rintro e V1 ⟨rfl, hb⟩; replace hS := hS.below hb; replace hkv := (hkv.below hb).mono hb.size; clear hb)
            | (refine wpList_newF rfl rfl _ rfl rfl _ rfl rfl Y1 D1.out (by kernel_rfl) (by kernel_rfl) ?_; intro V2 r1 hb; replace hS := hS.below hb; replace hkv := (hkv.below hb).mono hb.size; clear hb b0 b1; obtain ⟨b0, b1⟩ := hS.cells))
          generalize V1.heap.size = G1 at *
          go_upto_region 12 with (first
            | (go_at_call 11; (with_reducible refine (N2.out _ _ hS.bel hkv).mono ?_); rintro e V3 ⟨rfl, hb⟩; replace hS := hS.below hb; replace r1 := r1.below hb r1.lt; clear hb hkv)
            | (refine wpList_newF rfl rfl _ rfl rfl _ rfl rfl Y2 D2.out (by kernel_rfl) (by kernel_rfl) ?_; intro V4 r2 hb; replace hS := hS.below hb; replace r1 := r1.below hb r1.lt; clear hb b0 b1))
          generalize V3.heap.size = G2 at *
          have hF : FwS w V4 n (.slice Al l.length cl) G1 G2 Y1 Y2 := ⟨hS, r1, r2⟩
          clear hS r1 r2 N1 N2 F1 F2 C1 hkg hlt hszr
          by_cases hE1 : E1 = 0
          · subst hE1
            by_cases hE2 : E2 = 0
            · subst hE2
              by_cases hz1 : backZ Y1
              · have q1 := Q1.out
                simp only [decide_eq_true hz1] at q1
                have Q1T := Lib.hid q1
                clear q1 hz1
                go_wp2_with (first
                  | (refine wpList_load_at (by kernel_rfl) 36 (.tmp 99) rfl G1 3 R1 (by kernel_rfl) (T1.out _ _ hF.r1) Tryz.underlying36 rfl I1.out ?_)
                  | (refine wpList_build_at (by kernel_rfl) 36 #[] rfl (retC 0 0 0 0 (zeroD.map bv)).toArray (by kernel_rfl) ?_)
                  | (refine wpList_eql_at (by kernel_rfl) 36 _ (.tmp 100) (.tmp 101) rfl R1.toArray (retC 0 0 0 0 (zeroD.map bv)).toArray (by kernel_rfl) (by kernel_rfl) (by kernel_rfl) true Q1T.out ?_))
                go_ret
                exact ⟨rfl, hF.ts.bel⟩
              · have q1 := Q1.out
                simp only [decide_eq_false hz1] at q1
                have Q1T := Lib.hid q1
                clear q1
                by_cases hz2 : backZ Y2
                · have q2 := Q2.out
                  simp only [decide_eq_true hz2] at q2
                  have Q2T := Lib.hid q2
                  clear q2 hz1 hz2
                  go_wp2_with (first
                    | (refine wpList_load_at (by kernel_rfl) 36 (.tmp 99) rfl G1 3 R1 (by kernel_rfl) (T1.out _ _ hF.r1) Tryz.underlying36 rfl I1.out ?_)
                    | (refine wpList_load_at (by kernel_rfl) 36 (.tmp 105) rfl G2 3 R2 (by kernel_rfl) (T2.out _ _ hF.r2) Tryz.underlying36 rfl I2.out ?_)
                    | (refine wpList_build_at (by kernel_rfl) 36 #[] rfl (retC 0 0 0 0 (zeroD.map bv)).toArray (by kernel_rfl) ?_)
                    | (refine wpList_eql_at (by kernel_rfl) 36 _ (.tmp 100) (.tmp 101) rfl R1.toArray (retC 0 0 0 0 (zeroD.map bv)).toArray (by kernel_rfl) (by kernel_rfl) (by kernel_rfl) false Q1T.out ?_)
                    | (refine wpList_eql_at (by kernel_rfl) 36 _ (.tmp 106) (.tmp 107) rfl R2.toArray (retC 0 0 0 0 (zeroD.map bv)).toArray (by kernel_rfl) (by kernel_rfl) (by kernel_rfl) true Q2T.out ?_))
                  go_ret
                  exact ⟨rfl, hF.ts.bel⟩
                · have q2 := Q2.out
                  simp only [decide_eq_false hz2] at q2
                  have Q2T := Lib.hid q2
                  clear q2
                  obtain ⟨h1, k1, hy1, H1⟩ := K1.out.resolve_left hz1
                  obtain ⟨h2, k2, hy2, H2⟩ := K2.out.resolve_left hz2
                  have g1 := H1.k64
                  have g2 := H2.k64
                  rw [getD_rep g1.1] at hy1 g1
                  rw [getD_rep g2.1] at hy2
                  have hvk := g1.2.2.2
                  have hb1 := aliasA_bd H1.cke
                  have hb2 := aliasA_bd H2.cke
                  have hy1' : Y1 = fullF h1 k1 key (aliasA s h1.2.1 h1.2.2) r := congrArg Prod.fst hy1
                  have hy2' : Y2 = fullF h2 k2 key (aliasA s h2.2.1 h2.2.2) r := congrArg Prod.fst hy2
                  have a1 := fun (W : World) (hb : Below w.heap.size w W) => AL.out h1.2.1 h1.2.2 W hb
                  have a2 := fun (W : World) (hb : Below w.heap.size w W) => AL.out h2.2.1 h2.2.2 W hb
                  rw [H1.cke] at a1
                  rw [H2.cke] at a2
                  have hlaw := same_law (s := 0) (k1 := 0) (k2 := 0) (r := r) hvk hb1 hb2
                  have x1 : Y1.p = h1.2.1 ∧ Y1.o = h1.2.2 ∧ Y1.a = makeA r ∧ Y1.b = makeB key (aliasA s h1.2.1 h1.2.2) r := by rw [hy1']; simp only [fullF, and_self]
                  have x2 : Y2.p = h2.2.1 ∧ Y2.o = h2.2.2 ∧ Y2.a = makeA r ∧ Y2.b = makeB key (aliasA s h2.2.1 h2.2.2) r := by rw [hy2']; simp only [fullF, and_self]
                  clear hy1 hy2 hy1' hy2' g1 g2 hz1 hz2 K1 K2 H1 H2
                  obtain ⟨_, P1, O1⟩ := h1
                  obtain ⟨_, P2, O2⟩ := h2
                  simp only at a1 a2 hb1 hb2 hlaw x1 x2
                  obtain ⟨X1v, hX1⟩ : ∃ y, aliasA s P1 O1 = y := ⟨_, rfl⟩
                  obtain ⟨X2v, hX2⟩ : ∃ y, aliasA s P2 O2 = y := ⟨_, rfl⟩
                  rw [hX1] at a1 hb1 hlaw x1
                  rw [hX2] at a2 hb2 hlaw x2
                  have m1 := fun W => refelement_any X1v W
                  have m2 := fun W => refelement_any X2v W
                  rw [show elE X1v = 0 from by unfold elE; rw [if_pos hb1]] at m1
                  rw [show elE X2v = 0 from by unfold elE; rw [if_pos hb2]] at m2
                  obtain ⟨hpq, hv1, hv2⟩ := hlaw
                  have ve1 := vld_el hb1.1 hb1.2
                  have ve2 := vld_el hb2.1 hb2.2
                  have p1 := fun W => refmul_any (makeB key X1v r) (elC X2v) W
                  have p2 := fun W => refmul_any (makeB key X2v r) (elC X1v) W
                  rw [mulE_0 hv1 ve2] at p1
                  rw [mulE_0 hv2 ve1, ← hpq] at p2
                  obtain ⟨PQ, hPQ⟩ : ∃ y, mulC (makeB key X1v r) (elC X2v) = y := ⟨_, rfl⟩
                  rw [hPQ] at p1 p2
                  obtain ⟨MB1, hMB1⟩ : ∃ y, makeB key X1v r = y := ⟨_, rfl⟩
                  obtain ⟨MB2, hMB2⟩ : ∃ y, makeB key X2v r = y := ⟨_, rfl⟩
                  obtain ⟨MA, hMA⟩ : ∃ y, makeA r = y := ⟨_, rfl⟩
                  obtain ⟨EL1, hEL1⟩ : ∃ y, elC X1v = y := ⟨_, rfl⟩
                  obtain ⟨EL2, hEL2⟩ : ∃ y, elC X2v = y := ⟨_, rfl⟩
                  rw [hMB1, hEL2] at p1
                  rw [hMB2, hEL1] at p2
                  rw [hEL1] at m1
                  rw [hEL2] at m2
                  rw [hMA, hMB1] at x1
                  rw [hMA, hMB2] at x2
                  have cf : ∀ W, FwS w W n (.slice Al l.length cl) G1 G2 Y1 Y2 → (W.cell? ⟨G1, 1, none⟩ = some (.int .i64 P1) ∧ W.cell? ⟨G1, 2, none⟩ = some (.int .i64 O1) ∧ W.cell? ⟨G1, 5, none⟩ = some (.int .i64 MA) ∧ W.cell? ⟨G1, 6, none⟩ = some (.int .i64 MB1)) ∧
                      W.cell? ⟨G2, 1, none⟩ = some (.int .i64 P2) ∧ W.cell? ⟨G2, 2, none⟩ = some (.int .i64 O2) ∧ W.cell? ⟨G2, 5, none⟩ = some (.int .i64 MA) ∧ W.cell? ⟨G2, 6, none⟩ = some (.int .i64 MB2) := fun W h => by
                    have y1 := U1.out W G1 h.r1
                    have y2 := U2.out W G2 h.r2
                    rw [x1.1, x1.2.1, x1.2.2.1, x1.2.2.2] at y1
                    rw [x2.1, x2.2.1, x2.2.2.1, x2.2.2.2] at y2
                    exact ⟨y1.2, y2.2⟩
                  have CF := Lib.hid cf
                  have A1 := Lib.hid a1
                  have A2' := Lib.hid a2
                  have M1 := Lib.hid m1
                  have M2 := Lib.hid m2
                  have PP1 := Lib.hid p1
                  have PP2 := Lib.hid p2
                  clear cf a1 a2 m1 m2 p1 p2 x1 x2 hX1 hX2 hPQ hMB1 hMB2 hMA hEL1 hEL2 hpq hv1 hv2 ve1 ve2 hb1 hb2 hvk
                  obtain ⟨⟨y1, y2, y3, y4⟩, z1, z2, z3, z4⟩ := CF.out _ hF
                  go_wp2_with (first
                    | (refine wpList_load_at (by kernel_rfl) 36 (.tmp 99) rfl G1 3 R1 (by kernel_rfl) (T1.out _ _ hF.r1) Tryz.underlying36 rfl I1.out ?_)
                    | (refine wpList_load_at (by kernel_rfl) 36 (.tmp 105) rfl G2 3 R2 (by kernel_rfl) (T2.out _ _ hF.r2) Tryz.underlying36 rfl I2.out ?_)
                    | (refine wpList_build_at (by kernel_rfl) 36 #[] rfl (retC 0 0 0 0 (zeroD.map bv)).toArray (by kernel_rfl) ?_)
                    | (refine wpList_eql_at (by kernel_rfl) 36 _ (.tmp 100) (.tmp 101) rfl R1.toArray (retC 0 0 0 0 (zeroD.map bv)).toArray (by kernel_rfl) (by kernel_rfl) (by kernel_rfl) false Q1T.out ?_)
                    | (refine wpList_eql_at (by kernel_rfl) 36 _ (.tmp 106) (.tmp 107) rfl R2.toArray (retC 0 0 0 0 (zeroD.map bv)).toArray (by kernel_rfl) (by kernel_rfl) (by kernel_rfl) false Q2T.out ?_)
                    | (go_at_call 13; (first | (with_reducible refine (A1.out _ hF.ts.bel).mono ?_) | (with_reducible refine (A2'.out _ hF.ts.bel).mono ?_)); rintro e Z ⟨rfl, hb⟩; replace hF := hF.below hb; clear hb y1 y2 y3 y4 z1 z2 z3 z4; obtain ⟨⟨y1, y2, y3, y4⟩, z1, z2, z3, z4⟩ := CF.out _ hF)
                    | (go_at_call 14; (first | (with_reducible refine (M1.out _).mono ?_) | (with_reducible refine (M2.out _).mono ?_)); rintro e Z ⟨rfl, rfl⟩)
                    | (go_at_call 15; (first | (with_reducible refine (PP1.out _).mono ?_) | (with_reducible refine (PP2.out _).mono ?_)); rintro e Z ⟨rfl, rfl⟩))
                  go_ret
                  exact ⟨by simp, hF.ts.bel⟩
            · go_wp2_with fail
              go_ret
              exact ⟨rfl, hF.ts.bel⟩
          · go_wp2_with fail
            go_ret
            exact ⟨rfl, hF.ts.bel⟩
end Go.Proofs.YthckledagggoiaaGreatDoor
