import Derived.Test.YthckledagggoiaaGreatDoorAd1
import Derived.Test.YthckledagggoiaaGreatDoorAg3
import Derived.Deep.LoopGhost
set_option linter.unusedSimpArgs false
set_option linter.unusedVariables false
namespace Go.Proofs.YthckledagggoiaaGreatDoor
open Go.RowKit Go.Shelf Fk Sha
/-! ForwardHidden -/
structure HS (w W : World) (n : Int) (v : Value) (x : En) : Prop where
  bel : Below w.heap.size w W
  row : Row W w.heap.size 24 [.int .i64 n, v]
  rx : Row W (w.heap.size + 1) 49 [.int .i64 x.no, .int .i64 x.kind, .int .i64 x.a, .int .i64 x.b, .int .i64 x.from_, .int .i64 x.until_, .int .i64 x.known, .int .i64 x.gone]
theorem HS.below {w W W' : World} {n : Int} {v : Value} {x : En} (h : HS w W n v x) (hb : Below W.heap.size W W') : HS w W' n v x := ⟨h.bel.trans (hb.mono h.bel.size), h.row.below hb h.row.lt, h.rx.below hb h.rx.lt⟩
theorem HS.cells {w W : World} {n : Int} {v : Value} {x : En} (h : HS w W n v x) : (W.cell? ⟨w.heap.size, 0, none⟩ = some (.int .i64 n) ∧ W.cell? ⟨w.heap.size, 1, none⟩ = some v) ∧
    W.cell? ⟨w.heap.size + 1, 0, none⟩ = some (.int .i64 x.no) ∧ W.cell? ⟨w.heap.size + 1, 1, none⟩ = some (.int .i64 x.kind) ∧ W.cell? ⟨w.heap.size + 1, 2, none⟩ = some (.int .i64 x.a) ∧ W.cell? ⟨w.heap.size + 1, 3, none⟩ = some (.int .i64 x.b) ∧
    W.cell? ⟨w.heap.size + 1, 4, none⟩ = some (.int .i64 x.from_) ∧ W.cell? ⟨w.heap.size + 1, 5, none⟩ = some (.int .i64 x.until_) ∧ W.cell? ⟨w.heap.size + 1, 6, none⟩ = some (.int .i64 x.known) ∧ W.cell? ⟨w.heap.size + 1, 7, none⟩ = some (.int .i64 x.gone) :=
  ⟨⟨h.row.cell 0, h.row.cell 1⟩, h.rx.cell 0, h.rx.cell 1, h.rx.cell 2, h.rx.cell 3, h.rx.cell 4, h.rx.cell 5, h.rx.cell 6, h.rx.cell 7⟩
theorem HS.start (w : World) (n : Int) (v : Value) (x : En) : HS w ((w.alloc (.cells #[.int .i64 n, v] 24)).alloc (.cells #[.int .i64 x.no, .int .i64 x.kind, .int .i64 x.a, .int .i64 x.b, .int .i64 x.from_, .int .i64 x.until_, .int .i64 x.known, .int .i64 x.gone] 49)) n v x := by
  have a0 := Row.new w 24 [.int .i64 n, v]
  have B0 := below_alloc' w (.cells #[.int .i64 n, v] 24)
  have s0 : (w.alloc (.cells #[.int .i64 n, v] 24)).heap.size = w.heap.size + 1 := by simp
  generalize w.alloc (.cells #[.int .i64 n, v] 24) = W0 at *
  have a1 := Row.new W0 49 [.int .i64 x.no, .int .i64 x.kind, .int .i64 x.a, .int .i64 x.b, .int .i64 x.from_, .int .i64 x.until_, .int .i64 x.known, .int .i64 x.gone]
  rw [s0] at a1
  exact ⟨B0.alloc B0.size _, a0.alloc _, a1⟩
set_option maxRecDepth 100000 in
set_option maxHeartbeats 16000000 in
theorem forwardHidden_walk (l : List Lx) (xt : Int × Value) (keys : List Int) (kv : Value) (s : Int) (en : List En) (ev : Value) (people office al day time r : Int) (x : En) (w : World) (hT : Tab w) (hz : 1 < w.heap.size ∧ 0 < w.heap.size)
    (h0 : SlX w w.heap.size xt.2 l) (h1 : SlI w w.heap.size kv keys) (h3 : SlE w w.heap.size ev en) (hcap : capX l) (_ : ∀ i, i < keys.length → wfI (keys.getD i default)) (_ : (Lit.int .i64 s).wf = true) (_ : True)
    (_ : (Lit.int .i64 people).wf = true) (_ : (Lit.int .i64 office).wf = true) (_ : (Lit.int .i64 al).wf = true) (_ : (Lit.int .i64 day).wf = true) (_ : (Lit.int .i64 time).wf = true) (_ : (Lit.int .i64 r).wf = true) (_ : True) :
    Calls Tryz.prog 5 #[ttV xt.1 xt.2, kv, .int .i64 s, ev, .int .i64 people, .int .i64 office, .int .i64 al, .int .i64 day, .int .i64 time, .int .i64 r, x.val] w fun e w' => e = .returned (.bool true) ∧ Below w.heap.size w w' := by
  have hTT : TabOK w := ⟨hT, hz⟩
  obtain ⟨n, v⟩ := xt
  obtain ⟨A, c, rfl⟩ : ∃ A c, ev = .slice A en.length c := by obtain ⟨_, A, c, h, _⟩ := h3; exact ⟨A, c, h⟩
  obtain ⟨A2, c2, rfl⟩ : ∃ A c, kv = .slice A keys.length c := by obtain ⟨_, A, c, h, _⟩ := h1; exact ⟨A, c, h⟩
  have c1 := fun (W : World) (hb : Below w.heap.size w W) => sane36_any W (hTT.below hb)
  have f1 := fun (W : World) (hb : Below w.heap.size w W) => rfew36_any l n v A2 keys.length c2 A en.length c people W (h0.below hb) hcap
  have k1 := fun (W : World) (hb : Below w.heap.size w W) => r33check_any en (.slice A en.length c) W ((h3.below hb).mono hb.size)
  have d1 := fun (W : World) (hb : Below w.heap.size w W) => find_any s people office al W (hTT.below hb)
  have n1 := fun (W : World) (hb : Below w.heap.size w W) => next_any l n v keys (.slice A2 keys.length c2) s en (.slice A en.length c) people office al day time r W (hTT.below hb) (h0.below hb) ((h1.below hb).mono hb.size) ((h3.below hb).mono hb.size)
  have n2 := fun (u : Value) (W : World) (hb : Below w.heap.size w W) (hu : SlE W W.heap.size u (addL en x)) => next_any l n v keys (.slice A2 keys.length c2) s (addL en x) u people office al day time r W (hTT.below hb) (h0.below hb) ((h1.below hb).mono hb.size) hu
  have hlaw := fun (q : List (Int × Bool)) (hl : en.length ≤ 23) (ha : addE en x = 0) (ho : openE en (findV s people office al).1 day time = 0) (hq : Chain (deskL (standX en day time) 2) (findV s people office al).1 [(findV s people office al).1] q) (hne : ∀ p ∈ q, p.1 ≠ x.a) =>
    hidden_law (t := l) (n := n) (s := s) (people := people) (office := office) (al := al) (rn := r) (keys := keys) ho hl (addE_0 ha).1 (addE_0 ha).2 hq hne
  have o1 := nextR_wf l n keys s en people office al day time r
  obtain ⟨⟨Y, E⟩, hR⟩ : ∃ p, nextR l n keys s en people office al day time r = p := ⟨_, rfl⟩
  rw [hR] at n1 o1
  simp only [hR] at hlaw
  simp only at n1 o1
  have q1 := fun W => eqFw o1 o1 W
  rw [decide_eq_true (rfl : Y = Y)] at q1
  have dY := o1.ds
  have i1 : (Tryz.prog.info? 38).map (·.size) = some Y.cells.length := by rw [Fw.len dY]; kernel_rfl
  have hS := HS.start w n v x
  have HA3 := Lib.hid (fun (W : World) (hb : Below w.heap.size w W) => (h3.below hb).mono hb.size)
  obtain ⟨q0, hq0⟩ : ∃ q, findV s people office al = q := ⟨_, rfl⟩
  obtain ⟨q, fb⟩ := q0
  rw [hq0] at d1
  simp only [hq0] at hlaw
  obtain ⟨b1v, hb1v⟩ : ∃ b, few36 l keys.length en.length people = b := ⟨_, rfl⟩
  simp only [hb1v] at f1
  obtain ⟨CE, hCE⟩ : ∃ e, chkE en = e := ⟨_, rfl⟩
  simp only [hCE] at k1
  obtain ⟨KE, hKE⟩ : ∃ e, ckE s office (manyP people) = e := ⟨_, rfl⟩
  simp only [hKE] at d1
  have C1 := Lib.hid c1
  have F1 := Lib.hid f1
  have K1 := Lib.hid k1
  have D1 := Lib.hid d1
  have N1 := Lib.hid n1
  have N2 := Lib.hid n2
  have HLAW := Lib.hid hlaw
  have Q1 := Lib.hid q1
  have DY := Lib.hid dY
  have I1 := Lib.hid i1
  have HCE := Lib.hid hCE
  unfold En.val
  clear c1 f1 k1 d1 n1 n2 hlaw q1 dY i1 o1 hR h0 h1 h3 hcap hTT hT hz hb1v hCE hKE hq0
  obtain ⟨⟨b0, b1⟩, e0, e1, e2, e3, e4, e5, e6, e7⟩ := hS.cells
  cases b1v with
  | false =>
    go_enter Tryz.func5, Tryz.ntmps5
    go_wp2_with (first
      | (go_at_call 9; (with_reducible refine (C1.out _ hS.bel).mono ?_); rintro e X1 ⟨rfl, hb⟩; replace hS := hS.below hb; clear hb b0 b1 e0 e1 e2 e3 e4 e5 e6 e7; obtain ⟨⟨b0, b1⟩, e0, e1, e2, e3, e4, e5, e6, e7⟩ := hS.cells)
      | (go_at_call 10; (with_reducible refine (F1.out _ hS.bel).mono ?_); rintro e X2 ⟨rfl, hb⟩; replace hS := hS.below hb; clear hb b0 b1 e0 e1 e2 e3 e4 e5 e6 e7; obtain ⟨⟨b0, b1⟩, e0, e1, e2, e3, e4, e5, e6, e7⟩ := hS.cells))
    go_ret
    exact ⟨rfl, hS.bel⟩
  | true =>
    by_cases hC : CE = 0
    · subst hC
      by_cases hL : en.length ≤ 23
      · have z23 : decide (23 < (en.length : Int)) = false := decide_eq_false (by omega)
        have a1 := fun (W : World) (hb : Below w.heap.size w W) => radd_any en (.slice A en.length c) x W (HA3.out W hb) HCE.out hL
        unfold En.val at a1
        obtain ⟨AE, hAE⟩ : ∃ e, addE en x = e := ⟨_, rfl⟩
        simp only [hAE] at a1
        have A1 := Lib.hid a1
        have HAE := Lib.hid hAE
        clear a1 hAE
        by_cases hA : AE = 0
        · subst hA
          by_cases hK : KE = 0
          · subst hK
            cases fb with
            | false =>
              go_enter Tryz.func5, Tryz.ntmps5
              go_wp2_with (first
                | (go_at_call 9; (with_reducible refine (C1.out _ hS.bel).mono ?_); rintro e X1 ⟨rfl, hb⟩; replace hS := hS.below hb; clear hb b0 b1 e0 e1 e2 e3 e4 e5 e6 e7; obtain ⟨⟨b0, b1⟩, e0, e1, e2, e3, e4, e5, e6, e7⟩ := hS.cells)
                | (go_at_call 10; (with_reducible refine (F1.out _ hS.bel).mono ?_); rintro e X2 ⟨rfl, hb⟩; replace hS := hS.below hb; clear hb b0 b1 e0 e1 e2 e3 e4 e5 e6 e7; obtain ⟨⟨b0, b1⟩, e0, e1, e2, e3, e4, e5, e6, e7⟩ := hS.cells)
                | (go_at_call 16; (with_reducible refine (K1.out _ hS.bel).mono ?_); rintro e X3 ⟨rfl, hb⟩; replace hS := hS.below hb; clear hb b0 b1 e0 e1 e2 e3 e4 e5 e6 e7; obtain ⟨⟨b0, b1⟩, e0, e1, e2, e3, e4, e5, e6, e7⟩ := hS.cells)
                | (go_at_call 17; (with_reducible refine (A1.out _ hS.bel).mono ?_); rintro e X4 ⟨⟨u, rfl, hu⟩, hb⟩; replace hS := hS.below hb; clear hb b0 b1 e0 e1 e2 e3 e4 e5 e6 e7; obtain ⟨⟨b0, b1⟩, e0, e1, e2, e3, e4, e5, e6, e7⟩ := hS.cells)
                | (go_at_call 18; (with_reducible refine (D1.out _ hS.bel).mono ?_); rintro e X5 ⟨rfl, hb⟩; replace hS := hS.below hb; clear hb b0 b1 e0 e1 e2 e3 e4 e5 e6 e7; obtain ⟨⟨b0, b1⟩, e0, e1, e2, e3, e4, e5, e6, e7⟩ := hS.cells))
              go_ret
              exact ⟨rfl, hS.bel⟩
            | true =>
              by_cases hO : openE en q day time = 0
              · have g1 := fun (W : World) (hb : Below w.heap.size w W) => agents_some en (.slice A en.length c) q day time W (HA3.out W hb) hO
                have G1 := Lib.hid g1
                have HO := Lib.hid hO
                have HL := Lib.hid hL
                clear g1 hO hL
                go_enter Tryz.func5, Tryz.ntmps5
                go_wp2_with (first
                  | (go_at_call 9; (with_reducible refine (C1.out _ hS.bel).mono ?_); rintro e X1 ⟨rfl, hb⟩; replace hS := hS.below hb; clear hb b0 b1 e0 e1 e2 e3 e4 e5 e6 e7; obtain ⟨⟨b0, b1⟩, e0, e1, e2, e3, e4, e5, e6, e7⟩ := hS.cells)
                  | (go_at_call 10; (with_reducible refine (F1.out _ hS.bel).mono ?_); rintro e X2 ⟨rfl, hb⟩; replace hS := hS.below hb; clear hb b0 b1 e0 e1 e2 e3 e4 e5 e6 e7; obtain ⟨⟨b0, b1⟩, e0, e1, e2, e3, e4, e5, e6, e7⟩ := hS.cells)
                  | (go_at_call 16; (with_reducible refine (K1.out _ hS.bel).mono ?_); rintro e X3 ⟨rfl, hb⟩; replace hS := hS.below hb; clear hb b0 b1 e0 e1 e2 e3 e4 e5 e6 e7; obtain ⟨⟨b0, b1⟩, e0, e1, e2, e3, e4, e5, e6, e7⟩ := hS.cells)
                  | (go_at_call 17; (with_reducible refine (A1.out _ hS.bel).mono ?_); rintro e X4 ⟨⟨u, rfl, hu⟩, hb⟩; replace hu := hu (by trivial); replace hS := hS.below hb; clear hb b0 b1 e0 e1 e2 e3 e4 e5 e6 e7; obtain ⟨⟨b0, b1⟩, e0, e1, e2, e3, e4, e5, e6, e7⟩ := hS.cells)
                  | (go_at_call 18; (with_reducible refine (D1.out _ hS.bel).mono ?_); rintro e X5 ⟨rfl, hb⟩; replace hu := (hu.below hb).mono hb.size; replace hS := hS.below hb; clear hb b0 b1 e0 e1 e2 e3 e4 e5 e6 e7; obtain ⟨⟨b0, b1⟩, e0, e1, e2, e3, e4, e5, e6, e7⟩ := hS.cells)
                  | (go_at_call 19; (with_reducible refine (G1.out _ hS.bel).mono ?_); rintro e X6 ⟨xv, qs, rfl, hch, hsl, hb⟩; obtain ⟨P, hP⟩ : ∃ P : List Int, qs.map (·.1) = P := ⟨_, rfl⟩; rw [hP] at hsl; obtain ⟨_, Aq, cq, rfl, _⟩ := id hsl; have HP := Lib.hid hP; clear hP; replace hu := (hu.below hb).mono hb.size; replace hS := hS.below hb; clear hb b0 b1 e0 e1 e2 e3 e4 e5 e6 e7; obtain ⟨⟨b0, b1⟩, e0, e1, e2, e3, e4, e5, e6, e7⟩ := hS.cells))
                have HSL := Lib.hid hsl
                have HCH := Lib.hid hch
                have HUU := Lib.hid hu
                clear hsl hch hu
                go_loopg [89] P.length (fun gg iv wr => ∃ k : Nat, iv = .int .i64 k ∧ k + gg = P.length ∧ wr = X6 ∧ Hid (∀ i, i < k → P.getD i default ≠ x.a))
                case atStart => exact ⟨0, rfl, by omega, rfl, fun i hi => by omega⟩
                case round =>
                  obtain ⟨k, rfl, hkg, hwr, HA⟩ := hrel
                  subst hwr
                  by_cases hlt : k < P.length
                  · obtain ⟨_, A', c', hv, hE⟩ := HSL.out
                    obtain ⟨bq, oq, rfl, hbq, hE⟩ := hE (by omega)
                    cases hv
                    have y0 := CellsG.int hE hlt
                    obtain ⟨p, hp⟩ : ∃ p, P.getD k default = p := ⟨_, rfl⟩
                    rw [hp] at y0
                    have s1 : (0 : Int) ≤ k := by omega
                    have s2 : (k : Int) < P.length := by omega
                    have HPP := Lib.hid hp
                    clear hE hp
                    by_cases hpx : p = x.a
                    · have zz : (p == x.a) = true := by rw [hpx]; exact beq_self_eq_true _
                      clear hpx
                      go_wp2_with fail
                      go_ret
                      exact ⟨rfl, hS.bel⟩
                    · have zz : (p == x.a) = false := beq_eq_false_iff_ne.2 hpx
                      have HPX := Lib.hid hpx
                      clear hpx
                      go_wp2_with fail
                      go_roundg (gk - 1)
                      case measure => omega
                      case rel => exact ⟨k + 1, by first | rfl | go_num, by omega, rfl, fun i hi => by
                        by_cases hik : i = k
                        · subst hik; rw [HPP.out]; exact HPX.out
                        · exact HA.out i (by omega)⟩
                  · obtain rfl : k = P.length := by omega
                    have hne : ∀ q' ∈ qs, q'.1 ≠ x.a := fun q' hq' => by
                      have hm : q'.1 ∈ P := by rw [← HP.out]; exact List.mem_map_of_mem hq'
                      obtain ⟨i, hi, he⟩ := List.getElem_of_mem hm
                      have := HA.out i hi
                      rw [List.getD_eq_getElem?_getD, List.getElem?_eq_getElem hi] at this
                      rw [← he]; exact this
                    have hh := HLAW.out qs HL.out HAE.out HO.out HCH.out hne
                    have n3 := fun W hb hu => N2.out u W hb hu
                    simp only [hh] at n3
                    have N3 := Lib.hid n3
                    have hu := HUU.out
                    clear hh n3 hne hkg hlt HA
                    go_upto_region 21 with (first
                      | (go_at_call 11; (with_reducible refine (N1.out _ hS.bel).mono ?_); rintro e V1 ⟨rfl, hb⟩; replace hu := (hu.below hb).mono hb.size; replace hS := hS.below hb; clear hb)
                      | (refine wpList_newF rfl rfl _ rfl rfl _ rfl rfl Y DY.out (by kernel_rfl) (by kernel_rfl) ?_; intro V2 r1 hb; replace hu := (hu.below hb).mono hb.size; replace hS := hS.below hb; clear hb b0 b1 e0 e1 e2 e3 e4 e5 e6 e7; obtain ⟨⟨b0, b1⟩, e0, e1, e2, e3, e4, e5, e6, e7⟩ := hS.cells))
                    generalize V1.heap.size = GG1 at *
                    go_upto_region 22 with (first
                      | (go_at_call 11; (with_reducible refine (N3.out _ hS.bel hu).mono ?_); rintro e V3 ⟨rfl, hb⟩; replace hS := hS.below hb; replace r1 := r1.below hb r1.lt; clear hb hu)
                      | (refine wpList_newF rfl rfl _ rfl rfl _ rfl rfl Y DY.out (by kernel_rfl) (by kernel_rfl) ?_; intro V4 r2 hb; replace hS := hS.below hb; replace r1 := r1.below hb r1.lt; clear hb b0 b1 e0 e1 e2 e3 e4 e5 e6 e7))
                    generalize V3.heap.size = GG2 at *
                    have t1 := range_rowF r1
                    have t2 := range_rowF r2
                    go_wp2_with (first
                      | (refine wpList_load_at (by kernel_rfl) 38 (.tmp 32) rfl GG1 0 Y.cells (by kernel_rfl) t1 Tryz.underlying38 rfl I1.out ?_)
                      | (refine wpList_load_at (by kernel_rfl) 38 (.tmp 34) rfl GG2 0 Y.cells (by kernel_rfl) t2 Tryz.underlying38 rfl I1.out ?_)
                      | (refine wpList_eql_at (by kernel_rfl) 38 _ (.tmp 126) (.tmp 127) rfl Y.cells.toArray Y.cells.toArray (by kernel_rfl) (by kernel_rfl) (by kernel_rfl) true Q1.out ?_))
                    go_ret
                    exact ⟨by simp, hS.bel⟩
              · have g1 := fun (W : World) (hb : Below w.heap.size w W) => agents_none en (.slice A en.length c) q day time W (HA3.out W hb) hO
                obtain ⟨OE, hOE⟩ : ∃ e, openE en q day time = e := ⟨_, rfl⟩
                rw [hOE] at g1 hO
                have zo : (OE != 0) = true := bne_iff_ne.2 hO
                have G1 := Lib.hid g1
                clear g1 hOE hO
                go_enter Tryz.func5, Tryz.ntmps5
                go_wp2_with (first
                  | (go_at_call 9; (with_reducible refine (C1.out _ hS.bel).mono ?_); rintro e X1 ⟨rfl, hb⟩; replace hS := hS.below hb; clear hb b0 b1 e0 e1 e2 e3 e4 e5 e6 e7; obtain ⟨⟨b0, b1⟩, e0, e1, e2, e3, e4, e5, e6, e7⟩ := hS.cells)
                  | (go_at_call 10; (with_reducible refine (F1.out _ hS.bel).mono ?_); rintro e X2 ⟨rfl, hb⟩; replace hS := hS.below hb; clear hb b0 b1 e0 e1 e2 e3 e4 e5 e6 e7; obtain ⟨⟨b0, b1⟩, e0, e1, e2, e3, e4, e5, e6, e7⟩ := hS.cells)
                  | (go_at_call 16; (with_reducible refine (K1.out _ hS.bel).mono ?_); rintro e X3 ⟨rfl, hb⟩; replace hS := hS.below hb; clear hb b0 b1 e0 e1 e2 e3 e4 e5 e6 e7; obtain ⟨⟨b0, b1⟩, e0, e1, e2, e3, e4, e5, e6, e7⟩ := hS.cells)
                  | (go_at_call 17; (with_reducible refine (A1.out _ hS.bel).mono ?_); rintro e X4 ⟨⟨u, rfl, hu⟩, hb⟩; replace hS := hS.below hb; clear hb b0 b1 e0 e1 e2 e3 e4 e5 e6 e7; obtain ⟨⟨b0, b1⟩, e0, e1, e2, e3, e4, e5, e6, e7⟩ := hS.cells)
                  | (go_at_call 18; (with_reducible refine (D1.out _ hS.bel).mono ?_); rintro e X5 ⟨rfl, hb⟩; replace hS := hS.below hb; clear hb b0 b1 e0 e1 e2 e3 e4 e5 e6 e7; obtain ⟨⟨b0, b1⟩, e0, e1, e2, e3, e4, e5, e6, e7⟩ := hS.cells)
                  | (go_at_call 19; (with_reducible refine (G1.out _ hS.bel).mono ?_); rintro e X6 ⟨rfl, hb⟩; replace hS := hS.below hb; clear hb b0 b1 e0 e1 e2 e3 e4 e5 e6 e7; obtain ⟨⟨b0, b1⟩, e0, e1, e2, e3, e4, e5, e6, e7⟩ := hS.cells))
                go_ret
                exact ⟨rfl, hS.bel⟩
          · have zk : (KE != 0) = true := bne_iff_ne.2 hK
            clear hK
            go_enter Tryz.func5, Tryz.ntmps5
            go_wp2_with (first
              | (go_at_call 9; (with_reducible refine (C1.out _ hS.bel).mono ?_); rintro e X1 ⟨rfl, hb⟩; replace hS := hS.below hb; clear hb b0 b1 e0 e1 e2 e3 e4 e5 e6 e7; obtain ⟨⟨b0, b1⟩, e0, e1, e2, e3, e4, e5, e6, e7⟩ := hS.cells)
              | (go_at_call 10; (with_reducible refine (F1.out _ hS.bel).mono ?_); rintro e X2 ⟨rfl, hb⟩; replace hS := hS.below hb; clear hb b0 b1 e0 e1 e2 e3 e4 e5 e6 e7; obtain ⟨⟨b0, b1⟩, e0, e1, e2, e3, e4, e5, e6, e7⟩ := hS.cells)
              | (go_at_call 16; (with_reducible refine (K1.out _ hS.bel).mono ?_); rintro e X3 ⟨rfl, hb⟩; replace hS := hS.below hb; clear hb b0 b1 e0 e1 e2 e3 e4 e5 e6 e7; obtain ⟨⟨b0, b1⟩, e0, e1, e2, e3, e4, e5, e6, e7⟩ := hS.cells)
              | (go_at_call 17; (with_reducible refine (A1.out _ hS.bel).mono ?_); rintro e X4 ⟨⟨u, rfl, hu⟩, hb⟩; replace hS := hS.below hb; clear hb b0 b1 e0 e1 e2 e3 e4 e5 e6 e7; obtain ⟨⟨b0, b1⟩, e0, e1, e2, e3, e4, e5, e6, e7⟩ := hS.cells)
              | (go_at_call 18; (with_reducible refine (D1.out _ hS.bel).mono ?_); rintro e X5 ⟨rfl, hb⟩; replace hS := hS.below hb; clear hb b0 b1 e0 e1 e2 e3 e4 e5 e6 e7; obtain ⟨⟨b0, b1⟩, e0, e1, e2, e3, e4, e5, e6, e7⟩ := hS.cells))
            go_ret
            exact ⟨rfl, hS.bel⟩
        · have za : (AE != 0) = true := bne_iff_ne.2 hA
          clear hA
          go_enter Tryz.func5, Tryz.ntmps5
          go_wp2_with (first
            | (go_at_call 9; (with_reducible refine (C1.out _ hS.bel).mono ?_); rintro e X1 ⟨rfl, hb⟩; replace hS := hS.below hb; clear hb b0 b1 e0 e1 e2 e3 e4 e5 e6 e7; obtain ⟨⟨b0, b1⟩, e0, e1, e2, e3, e4, e5, e6, e7⟩ := hS.cells)
            | (go_at_call 10; (with_reducible refine (F1.out _ hS.bel).mono ?_); rintro e X2 ⟨rfl, hb⟩; replace hS := hS.below hb; clear hb b0 b1 e0 e1 e2 e3 e4 e5 e6 e7; obtain ⟨⟨b0, b1⟩, e0, e1, e2, e3, e4, e5, e6, e7⟩ := hS.cells)
            | (go_at_call 16; (with_reducible refine (K1.out _ hS.bel).mono ?_); rintro e X3 ⟨rfl, hb⟩; replace hS := hS.below hb; clear hb b0 b1 e0 e1 e2 e3 e4 e5 e6 e7; obtain ⟨⟨b0, b1⟩, e0, e1, e2, e3, e4, e5, e6, e7⟩ := hS.cells)
            | (go_at_call 17; (with_reducible refine (A1.out _ hS.bel).mono ?_); rintro e X4 ⟨⟨u, rfl, hu⟩, hb⟩; replace hS := hS.below hb; clear hb b0 b1 e0 e1 e2 e3 e4 e5 e6 e7; obtain ⟨⟨b0, b1⟩, e0, e1, e2, e3, e4, e5, e6, e7⟩ := hS.cells))
          go_ret
          exact ⟨rfl, hS.bel⟩
      · have z23 : decide (23 < (en.length : Int)) = true := decide_eq_true (by omega)
        clear hL
        go_enter Tryz.func5, Tryz.ntmps5
        go_wp2_with (first
          | (go_at_call 9; (with_reducible refine (C1.out _ hS.bel).mono ?_); rintro e X1 ⟨rfl, hb⟩; replace hS := hS.below hb; clear hb b0 b1 e0 e1 e2 e3 e4 e5 e6 e7; obtain ⟨⟨b0, b1⟩, e0, e1, e2, e3, e4, e5, e6, e7⟩ := hS.cells)
          | (go_at_call 10; (with_reducible refine (F1.out _ hS.bel).mono ?_); rintro e X2 ⟨rfl, hb⟩; replace hS := hS.below hb; clear hb b0 b1 e0 e1 e2 e3 e4 e5 e6 e7; obtain ⟨⟨b0, b1⟩, e0, e1, e2, e3, e4, e5, e6, e7⟩ := hS.cells)
          | (go_at_call 16; (with_reducible refine (K1.out _ hS.bel).mono ?_); rintro e X3 ⟨rfl, hb⟩; replace hS := hS.below hb; clear hb b0 b1 e0 e1 e2 e3 e4 e5 e6 e7; obtain ⟨⟨b0, b1⟩, e0, e1, e2, e3, e4, e5, e6, e7⟩ := hS.cells))
        go_ret
        exact ⟨rfl, hS.bel⟩
    · have zc : (CE != 0) = true := bne_iff_ne.2 hC
      clear hC
      go_enter Tryz.func5, Tryz.ntmps5
      go_wp2_with (first
        | (go_at_call 9; (with_reducible refine (C1.out _ hS.bel).mono ?_); rintro e X1 ⟨rfl, hb⟩; replace hS := hS.below hb; clear hb b0 b1 e0 e1 e2 e3 e4 e5 e6 e7; obtain ⟨⟨b0, b1⟩, e0, e1, e2, e3, e4, e5, e6, e7⟩ := hS.cells)
        | (go_at_call 10; (with_reducible refine (F1.out _ hS.bel).mono ?_); rintro e X2 ⟨rfl, hb⟩; replace hS := hS.below hb; clear hb b0 b1 e0 e1 e2 e3 e4 e5 e6 e7; obtain ⟨⟨b0, b1⟩, e0, e1, e2, e3, e4, e5, e6, e7⟩ := hS.cells)
        | (go_at_call 16; (with_reducible refine (K1.out _ hS.bel).mono ?_); rintro e X3 ⟨rfl, hb⟩; replace hS := hS.below hb; clear hb b0 b1 e0 e1 e2 e3 e4 e5 e6 e7; obtain ⟨⟨b0, b1⟩, e0, e1, e2, e3, e4, e5, e6, e7⟩ := hS.cells))
      go_ret
      exact ⟨rfl, hS.bel⟩
end Go.Proofs.YthckledagggoiaaGreatDoor
