import Derived.Test.YthboebhghaabnaaGreatDoorPzn
set_option linter.unusedSimpArgs false
set_option linter.unusedVariables false
namespace Go.Proofs.YthboebhghaabnaaGreatDoor
open Go.RowKit Fk Sha
/-! ShuffleMakeSpec. -/
theorem wfOg_ok9 {o : Og} (h : wfOg o) : o.ok := by
  obtain ⟨h1, ⟨h2, h3, h4⟩, h5⟩ := h
  exact ⟨⟨bounds_i64 h1, bounds_i64 h2, bounds_i64 h3, bounds_i64 h4⟩, h5⟩
theorem wfTn_ok9 {t : Tn} (h : wfTn t) : OkTn t :=
  ⟨h.s, fun i h1 h2 h3 => wfOg_ok9 ⟨h.l i h1, h.rl i h2, by show ((t.s.getD i default).take 32).length = 32; rw [List.length_take, h.s i h3]; rfl⟩,
    fun i h1 h2 h3 => wfOg_ok9 ⟨h.r i h1, h.rr i h2, by show (((t.s.getD i default).drop 32).take 32).length = 32; rw [List.length_take, List.length_drop, h.s i h3]; rfl⟩⟩
theorem mixC_ok (key : Int) (s : List Se) (t : Tn) : MxOK (mixC key s t) := by
  have hC : mixC key s t = if mixE key s t = 0 then mixTo key s t s.length else zMx := rfl
  rw [hC]
  by_cases h : mixE key s t = 0
  · rw [if_pos h]
    refine ⟨fun i hi => ?_, fun i hi => ?_⟩
    · have hl : i < s.length := by simpa [mixTo] using hi
      show (((List.range s.length).map fun j => comN tagL (ogL t j)).getD i default).length = 32
      rw [map_range_get _ hl]; exact tagged_length _ _
    · have hl : i < s.length := by simpa [mixTo] using hi
      show (((List.range s.length).map fun j => comN tagR (ogR t j)).getD i default).length = 32
      rw [map_range_get _ hl]; exact tagged_length _ _
  · rw [if_neg h]
    exact ⟨fun i hi => absurd hi (by simp [zMx]), fun i hi => absurd hi (by simp [zMx])⟩
set_option maxRecDepth 100000 in
set_option maxHeartbeats 8000000 in
theorem shuffleMakeSpec_walk (key : Int) (s : List Se) (v1 : Value) (t : Tn) (x : TnA) (w : World) (hT0 : Tab w) (hz0 : 1 < w.heap.size ∧ 0 < w.heap.size)
    (h1 : SlS w w.heap.size v1 s) (ht : TnS w w.heap.size x t)
    (_ : (Lit.int .i64 key).wf = true) (_ : True) (hwt : wfTn t) :
    Calls Tryz.prog 3 #[.int .i64 key, v1, .agg (x.cells t).toArray] w fun e w' => e = .returned (.bool true) ∧ Below w.heap.size w w' := by
  have HT := Lib.hid (show TabS w from ⟨hT0, hz0⟩)
  have SN := Lib.hid (fun W (hb : Below w.heap.size w W) => sane14_any W (HT.out.below hb))
  have F1 := Lib.hid (fun W => fewturn_any t x W)
  have OKT := Lib.hid (wfTn_ok9 hwt)
  have C1 := Lib.hid (fun W (hb : Below w.heap.size w W) h1 h2 => make_any key s t x v1 W (HT.out.below hb) h1 h2 OKT.out)
  have C2 := Lib.hid (fun W h1 h2 => rmake_any key s t x v1 W h1 h2 OKT.out)
  have HOK := Lib.hid (mixC_ok key s t)
  have SM := Lib.hid (fun (y y2 : MxA) W h1 h2 => rsame14_any (mixC key s t) y y2 W h1 h2 HOK.out)
  obtain ⟨M, hM⟩ : ∃ M, mixC key s t = M := ⟨_, rfl⟩
  obtain ⟨E, hE⟩ : ∃ E, mixE key s t = E := ⟨_, rfl⟩
  rw [hM, hE] at C1 C2
  rw [hM] at SM
  have hB := below_alloc' w (.cells (x.cells t).toArray 27)
  have r0 := Row.new w 27 (x.cells t)
  obtain ⟨W, hW⟩ : ∃ W, w.alloc (.cells (x.cells t).toArray 27) = W := ⟨_, rfl⟩
  replace r0 : Row W w.heap.size 27 (x.cells t) := hW ▸ r0
  replace hB : Below w.heap.size w W := hW ▸ hB
  have k0 : Kp fun W' => ((Below w.heap.size w W' ∧ Row W' w.heap.size 27 (x.cells t)) ∧ TnS W' W'.heap.size x t ∧ SlS W' W'.heap.size v1 s) := by intro W W' hb ⟨⟨a, b⟩, c, d⟩; exact ⟨⟨Kp.from w hb a, Kp.row hb b⟩, Kp.tn hb c, Kp.sl hb d⟩
  have h0 : (fun W' => ((Below w.heap.size w W' ∧ Row W' w.heap.size 27 (x.cells t)) ∧ TnS W' W'.heap.size x t ∧ SlS W' W'.heap.size v1 s)) W := ⟨⟨hB, r0⟩, (ht.below hB).mono hB.size, (h1.below hB).mono hB.size⟩
  obtain ⟨_, A0, c0, rfl, _⟩ := h1
  obtain ⟨al, cl, ar, cr, arl, crl, arr, crr, at_, ct⟩ := x
  have hx : (TnA.cells ⟨al, cl, ar, cr, arl, crl, arr, crr, at_, ct⟩ t) = [.slice al t.l.length cl, .slice ar t.r.length cr, .slice arl t.rl.length crl, .slice arr t.rr.length crr, .slice at_ t.s.length ct] := rfl
  rw [hx] at F1 h0 k0 hW C1 C2 ⊢
  replace hW : w.alloc (.cells #[.slice al t.l.length cl, .slice ar t.r.length cr, .slice arl t.rl.length crl, .slice arr t.rr.length crr, .slice at_ t.s.length ct] 27) = W := hW
  unfold MxA.cells at C1 C2 SM
  clear hT0 hz0 ht hwt hB r0 hx hM hE
  by_cases f0 : (6 : Int) < s.length
  · skip
    go_enter Tryz.func3, Tryz.ntmps3
    go_upto_region 1 with fail
    try rw [hW]
    clear hW
    go_wp2_with (go_at_call 5; (with_reducible refine (SN.out _ h0.1.1).mono ?_); rintro e w1 ⟨rfl, hb⟩; replace h0 := k0 hb h0; clear hb; obtain ⟨e0, e1, e2, e3, e4⟩ := st5c h0.1.2)
    go_ret
    exact ⟨rfl, h0.1.1⟩
  cases f1 : fewTn t with
  | false =>
    rw [f1] at F1
    go_enter Tryz.func3, Tryz.ntmps3
    go_upto_region 1 with fail
    try rw [hW]
    clear hW
    go_wp2_with (first
      | (go_at_call 5; (with_reducible refine (SN.out _ h0.1.1).mono ?_); rintro e w1 ⟨rfl, hb⟩; replace h0 := k0 hb h0; clear hb; obtain ⟨e0, e1, e2, e3, e4⟩ := st5c h0.1.2)
      | (go_at_call 6; (with_reducible refine (F1.out _).mono ?_); rintro e w2 ⟨rfl, hb⟩; replace h0 := k0 hb h0; clear hb; obtain ⟨e0, e1, e2, e3, e4⟩ := st5c h0.1.2))
    go_ret
    exact ⟨rfl, h0.1.1⟩
  | true =>
  rw [f1] at F1
  clear f1
  go_enter Tryz.func3, Tryz.ntmps3
  go_upto_region 1 with fail
  try rw [hW]
  clear hW
  go_upto_region 5 with (first
  | (go_at_call 5; (with_reducible refine (SN.out _ h0.1.1).mono ?_); rintro e w1 ⟨rfl, hb⟩; replace h0 := k0 hb h0; clear hb; obtain ⟨e0, e1, e2, e3, e4⟩ := st5c h0.1.2)
  | (go_at_call 6; (with_reducible refine (F1.out _).mono ?_); rintro e w2 ⟨rfl, hb⟩; replace h0 := k0 hb h0; clear hb; obtain ⟨e0, e1, e2, e3, e4⟩ := st5c h0.1.2))
  go_upto_region 6 with (go_at_call 7; (with_reducible refine (C1.out _ h0.1.1 h0.2.1 h0.2.2).mono ?_); rintro e w6 ⟨y, rfl, hb, hy⟩; replace h0 := k0 hb h0; clear hb e0 e1 e2 e3 e4; obtain ⟨e0, e1, e2, e3, e4⟩ := st5c h0.1.2)
  have rM := Row.new w6 32 [.slice y.ai M.i.length y.ci, .slice y.am M.m.length y.cm, .slice y.ao M.o.length y.co, .slice y.al M.l.length y.cl, .slice y.ar M.r.length y.cr]
  have hb := below_alloc' w6 (.cells #[.slice y.ai M.i.length y.ci, .slice y.am M.m.length y.cm, .slice y.ao M.o.length y.co, .slice y.al M.l.length y.cl, .slice y.ar M.r.length y.cr] 32)
  obtain ⟨W6, hV⟩ : ∃ V, w6.alloc (.cells #[.slice y.ai M.i.length y.ci, .slice y.am M.m.length y.cm, .slice y.ao M.o.length y.co, .slice y.al M.l.length y.cl, .slice y.ar M.r.length y.cr] 32) = V := ⟨_, rfl⟩
  replace rM : Row W6 w6.heap.size 32 [.slice y.ai M.i.length y.ci, .slice y.am M.m.length y.cm, .slice y.ao M.o.length y.co, .slice y.al M.l.length y.cl, .slice y.ar M.r.length y.cr] := hV ▸ rM
  rw [hV] at hb ⊢
  replace h0 := k0 hb h0
  replace hy := Kp.mx hb hy
  clear hb hV e0 e1 e2 e3 e4
  obtain ⟨e0, e1, e2, e3, e4⟩ := st5c h0.1.2
  go_upto_region 7 with (go_at_call 8; (with_reducible refine (C2.out _ h0.2.1 h0.2.2).mono ?_); rintro e w7 ⟨y2, rfl, hb, hy2⟩; replace h0 := k0 hb h0; replace rM := rM.below hb rM.lt; replace hy := Kp.mx hb hy; clear hb e0 e1 e2 e3 e4)
  have rN := Row.new w7 32 [.slice y2.ai M.i.length y2.ci, .slice y2.am M.m.length y2.cm, .slice y2.ao M.o.length y2.co, .slice y2.al M.l.length y2.cl, .slice y2.ar M.r.length y2.cr]
  have hb := below_alloc' w7 (.cells #[.slice y2.ai M.i.length y2.ci, .slice y2.am M.m.length y2.cm, .slice y2.ao M.o.length y2.co, .slice y2.al M.l.length y2.cl, .slice y2.ar M.r.length y2.cr] 32)
  obtain ⟨W7, hV⟩ : ∃ V, w7.alloc (.cells #[.slice y2.ai M.i.length y2.ci, .slice y2.am M.m.length y2.cm, .slice y2.ao M.o.length y2.co, .slice y2.al M.l.length y2.cl, .slice y2.ar M.r.length y2.cr] 32) = V := ⟨_, rfl⟩
  replace rN : Row W7 w7.heap.size 32 [.slice y2.ai M.i.length y2.ci, .slice y2.am M.m.length y2.cm, .slice y2.ao M.o.length y2.co, .slice y2.al M.l.length y2.cl, .slice y2.ar M.r.length y2.cr] := hV ▸ rN
  rw [hV] at hb ⊢
  replace h0 := k0 hb h0
  replace rM := rM.below hb rM.lt
  replace hy := Kp.mx hb hy
  replace hy2 := Kp.mx hb hy2
  clear hb hV
  obtain ⟨m0, m1, m2, m3, m4⟩ := st5c rM
  obtain ⟨n0, n1, n2, n3, n4⟩ := st5c rN
  have hEE : (E == E) = true := by simp
  go_wp2_with (go_at_call 9; (with_reducible refine (SM.out _ _ _ hy hy2).mono ?_); rintro e w8 ⟨rfl, hb⟩; replace h0 := k0 hb h0; clear hb)
  go_ret
  exact ⟨by first | rfl | simp, h0.1.1⟩
end Go.Proofs.YthboebhghaabnaaGreatDoor
