import Derived.Test.YthckledagggoiaaGreatDoorZFp3
set_option linter.unusedSimpArgs false
set_option linter.unusedVariables false
namespace Go.Proofs.YthckledagggoiaaGreatDoor
open Go.RowKit Go.Shelf Fk Sha
/-! ForwardSpec -/
set_option maxRecDepth 100000 in
set_option maxHeartbeats 8000000 in
theorem forwardSpec_walk (l : List Lx) (x : Int × Value) (keys : List Int) (kv : Value) (s : Int) (en : List En) (ev : Value) (people office al day time r : Int) (w : World) (hT : Tab w) (hz : 1 < w.heap.size ∧ 0 < w.heap.size)
    (h0 : SlX w w.heap.size x.2 l) (h1 : SlI w w.heap.size kv keys) (h3 : SlE w w.heap.size ev en) (hcap : capX l) (_ : ∀ i, i < keys.length → wfI (keys.getD i default)) (_ : (Lit.int .i64 s).wf = true) (_ : True)
    (_ : (Lit.int .i64 people).wf = true) (_ : (Lit.int .i64 office).wf = true) (_ : (Lit.int .i64 al).wf = true) (_ : (Lit.int .i64 day).wf = true) (_ : (Lit.int .i64 time).wf = true) (_ : (Lit.int .i64 r).wf = true) :
    Calls Tryz.prog 3 #[ttV x.1 x.2, kv, .int .i64 s, ev, .int .i64 people, .int .i64 office, .int .i64 al, .int .i64 day, .int .i64 time, .int .i64 r] w fun e w' => e = .returned (.bool true) ∧ Below w.heap.size w w' := by
  have hTT : TabOK w := ⟨hT, hz⟩
  obtain ⟨n, v⟩ := x
  obtain ⟨A, c, rfl⟩ : ∃ A c, ev = .slice A en.length c := by obtain ⟨_, A, c, h, _⟩ := h3; exact ⟨A, c, h⟩
  obtain ⟨A2, c2, rfl⟩ : ∃ A c, kv = .slice A keys.length c := by obtain ⟨_, A, c, h, _⟩ := h1; exact ⟨A, c, h⟩
  have c1 := fun (W : World) (hb : Below w.heap.size w W) => sane36_any W (hTT.below hb)
  have f1 := fun (W : World) (hb : Below w.heap.size w W) => rfew36_any l n v A2 keys.length c2 A en.length c people W (h0.below hb) hcap
  have n1 := fun (W : World) (hb : Below w.heap.size w W) => next_any l n v keys (.slice A2 keys.length c2) s en (.slice A en.length c) people office al day time r W (hTT.below hb) (h0.below hb) ((h1.below hb).mono hb.size) ((h3.below hb).mono hb.size)
  have n2 := fun (W : World) (hb : Below w.heap.size w W) => r36next_any l n v keys (.slice A2 keys.length c2) s en (.slice A en.length c) people office al day time r W (h0.below hb) ((h1.below hb).mono hb.size) ((h3.below hb).mono hb.size) hcap
  have o1 := nextR_wf l n keys s en people office al day time r
  obtain ⟨⟨Y, E⟩, hR⟩ : ∃ p, nextR l n keys s en people office al day time r = p := ⟨_, rfl⟩
  rw [hR] at n1 n2 o1
  simp only at n1 n2 o1
  have q1 := fun W => eqFw o1 o1 W
  rw [decide_eq_true (rfl : Y = Y)] at q1
  have d1 := o1.ds
  have i1 : (Tryz.prog.info? 38).map (·.size) = some Y.cells.length := by rw [Fw.len d1]; kernel_rfl
  have hS := TS.start w n v
  obtain ⟨b1v, hb1v⟩ : ∃ b, few36 l keys.length en.length people = b := ⟨_, rfl⟩
  simp only [hb1v] at f1
  have C1 := Lib.hid c1
  have F1 := Lib.hid f1
  have N1 := Lib.hid n1
  have N2 := Lib.hid n2
  have Q1 := Lib.hid q1
  have D1 := Lib.hid d1
  have I1 := Lib.hid i1
  clear c1 f1 n1 n2 q1 d1 i1 o1 hR h0 h1 h3 hcap hTT hT hz hb1v
  obtain ⟨b0, b1⟩ := hS.cells
  cases b1v with
  | false =>
    go_enter Tryz.func3, Tryz.ntmps3
    go_wp2_with (first
      | (go_at_call 9; (with_reducible refine (C1.out _ hS.bel).mono ?_); rintro e X1 ⟨rfl, hb⟩; replace hS := hS.below hb; clear hb b0 b1; obtain ⟨b0, b1⟩ := hS.cells)
      | (go_at_call 10; (with_reducible refine (F1.out _ hS.bel).mono ?_); rintro e X2 ⟨rfl, hb⟩; replace hS := hS.below hb; clear hb b0 b1; obtain ⟨b0, b1⟩ := hS.cells))
    go_ret
    exact ⟨rfl, hS.bel⟩
  | true =>
    go_enter Tryz.func3, Tryz.ntmps3
    go_upto_region 6 with (first
      | (go_at_call 9; (with_reducible refine (C1.out _ hS.bel).mono ?_); rintro e X1 ⟨rfl, hb⟩; replace hS := hS.below hb; clear hb b0 b1; obtain ⟨b0, b1⟩ := hS.cells)
      | (go_at_call 10; (with_reducible refine (F1.out _ hS.bel).mono ?_); rintro e X2 ⟨rfl, hb⟩; replace hS := hS.below hb; clear hb b0 b1; obtain ⟨b0, b1⟩ := hS.cells)
      | (go_at_call 11; (with_reducible refine (N1.out _ hS.bel).mono ?_); rintro e V1 ⟨rfl, hb⟩; replace hS := hS.below hb; clear hb)
      | (refine wpList_newF rfl rfl _ rfl rfl _ rfl rfl Y D1.out (by kernel_rfl) (by kernel_rfl) ?_; intro V2 r1 hb; replace hS := hS.below hb; clear hb b0 b1; obtain ⟨b0, b1⟩ := hS.cells))
    generalize V1.heap.size = G1 at *
    go_upto_region 7 with (first
      | (go_at_call 12; (with_reducible refine (N2.out _ hS.bel).mono ?_); rintro e V3 ⟨rfl, hb⟩; replace hS := hS.below hb; replace r1 := r1.below hb r1.lt; clear hb)
      | (refine wpList_newF rfl rfl _ rfl rfl _ rfl rfl Y D1.out (by kernel_rfl) (by kernel_rfl) ?_; intro V4 r2 hb; replace hS := hS.below hb; replace r1 := r1.below hb r1.lt; clear hb b0 b1))
    generalize V3.heap.size = G2 at *
    have g1 := range_rowF r1
    have g2 := range_rowF r2
    go_wp2_with (first
      | (refine wpList_load_at (by kernel_rfl) 38 (.tmp 21) rfl G1 0 Y.cells (by kernel_rfl) g1 Tryz.underlying38 rfl I1.out ?_)
      | (refine wpList_load_at (by kernel_rfl) 38 (.tmp 23) rfl G2 0 Y.cells (by kernel_rfl) g2 Tryz.underlying38 rfl I1.out ?_)
      | (refine wpList_eql_at (by kernel_rfl) 38 _ (.tmp 61) (.tmp 62) rfl Y.cells.toArray Y.cells.toArray (by kernel_rfl) (by kernel_rfl) (by kernel_rfl) true Q1.out ?_))
    go_ret
    exact ⟨by simp, hS.bel⟩
end Go.Proofs.YthckledagggoiaaGreatDoor
