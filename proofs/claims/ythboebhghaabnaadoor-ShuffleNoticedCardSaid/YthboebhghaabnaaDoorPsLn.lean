import Derived.Test.YthboebhghaabnaaDoorPst
import Derived.Deep.QuietTactic
import Derived.BigQuiet
set_option linter.unusedSimpArgs false
set_option linter.unusedVariables false
namespace Go.Proofs.YthboebhghaabnaaDoor
open Go.RowKit Go.WideShapes Go.ChangeShapes Go.ChangeMaps Go.Deep Fk Sha
/-! Lists of letters as arguments. -/
section
variable {H : Type} {enc : TypeId × Value → H} {w : World} {base : Nat} {r : Reach}
set_option maxRecDepth 100000 in
theorem open_sl_s14 {v : Value} {d : DataW H} {p : List MemPlace} (hv : Value.okWide Tryd.prog w r base 42 v) (h : DataW.Trod enc Tryd.prog w 0 (fun _ => true) true 42 v d p) :
    ∃ l : List Se, SlS w w.heap.size v l ∧ True := by
  obtain ⟨a, len, cap, rfl⟩ := okWide_slice Tryd.underlying42 hv
  obtain ⟨fuel, hf⟩ := h
  rw [cells_slice] at hf
  obtain ⟨l, A, c, e, s, _, _, q⟩ := open_slG (m := 6) (en := encS) (Q := fun _ => True) (by omega) Tryd.underlying42 (by kernel_rfl) (fun n cs x h1 h2 => el_se h1 h2) hf
  obtain ⟨rfl, rfl, rfl⟩ : a = A ∧ len = l.length ∧ cap = c := by simpa using e
  exact ⟨l, s, trivial⟩
end
end Go.Proofs.YthboebhghaabnaaDoor

set_option linter.unusedSimpArgs false
set_option linter.unusedVariables false
namespace Go.Proofs.YthboebhghaabnaaDoor
open Go.RowKit Fk Sha
/-! ShuffleNoticed. -/
theorem wfTn_ok7 {t : Tn} (h : wfTn t) : OkTn t :=
  ⟨h.s, fun i h1 h2 h3 => wfOg_ok ⟨h.l i h1, h.rl i h2, by show ((t.s.getD i default).take 32).length = 32; rw [List.length_take, h.s i h3]; rfl⟩,
    fun i h1 h2 h3 => wfOg_ok ⟨h.r i h1, h.rr i h2, by show (((t.s.getD i default).drop 32).take 32).length = 32; rw [List.length_take, List.length_drop, h.s i h3]; rfl⟩⟩
set_option maxRecDepth 100000 in
set_option maxHeartbeats 20000000 in
theorem shuffleNoticed_walk (key second : Int) (s : List Se) (v1 : Value) (t : Tn) (x : TnA) (at0 : Int) (z : Se) (w : World) (hT0 : Tab w) (hz0 : 1 < w.heap.size ∧ 0 < w.heap.size)
    (h1 : SlS w w.heap.size v1 s) (ht : TnS w w.heap.size x t)
    (_ : (Lit.int .i64 key).wf = true) (_ : (Lit.int .i64 second).wf = true) (_ : True) (hwt : wfTn t) (hat0 : (Lit.int .u8 at0).wf = true) (_ : True) :
    Calls Tryd.prog 8 #[.int .i64 key, .int .i64 second, v1, .agg (x.cells t).toArray, .int .u8 at0, z.val] w fun e w' => e = .returned (.bool true) ∧ Below w.heap.size w w' := by
  have HT := Lib.hid (show TabS w from ⟨hT0, hz0⟩)
  have SN := Lib.hid (fun W (hb : Below w.heap.size w W) => sane14_any W (HT.out.below hb))
  have VK := Lib.hid (fun W => refvalid_any key W)
  have VS := Lib.hid (fun W => refvalid_any second W)
  have FM := Lib.hid (fun W h => rformed10_any s v1 W h)
  have RR := Lib.hid (fun W h => rright_any t x s.length W h)
  have RC := Lib.hid (fun W => rcheck_any z W)
  have OKT := Lib.hid (wfTn_ok7 hwt)
  have HAT := Lib.hid (bounds_u8 hat0)
  have hB0 := below_alloc' w (.cells (x.cells t).toArray 26)
  have hB := hB0.alloc hB0.size (.cells #[.int .i64 z.x.a, .int .i64 z.x.b, .int .i64 z.y.a, .int .i64 z.y.b, .int .i64 z.z.a, .int .i64 z.z.b] 68)
  have r0 := (Row.new w 26 (x.cells t)).alloc (.cells #[.int .i64 z.x.a, .int .i64 z.x.b, .int .i64 z.y.a, .int .i64 z.y.b, .int .i64 z.z.a, .int .i64 z.z.b] 68)
  have r1 : Row ((w.alloc (.cells (x.cells t).toArray 26)).alloc (.cells #[.int .i64 z.x.a, .int .i64 z.x.b, .int .i64 z.y.a, .int .i64 z.y.b, .int .i64 z.z.a, .int .i64 z.z.b] 68)) (w.heap.size + 1) 68 [.int .i64 z.x.a, .int .i64 z.x.b, .int .i64 z.y.a, .int .i64 z.y.b, .int .i64 z.z.a, .int .i64 z.z.b] := rowZ (by simp) _ [.int .i64 z.x.a, .int .i64 z.x.b, .int .i64 z.y.a, .int .i64 z.y.b, .int .i64 z.z.a, .int .i64 z.z.b]
  obtain ⟨W, hW⟩ : ∃ W, (w.alloc (.cells (x.cells t).toArray 26)).alloc (.cells #[.int .i64 z.x.a, .int .i64 z.x.b, .int .i64 z.y.a, .int .i64 z.y.b, .int .i64 z.z.a, .int .i64 z.z.b] 68) = W := ⟨_, rfl⟩
  rw [hW] at hB r0 r1
  have k0 : Kp fun W' => ((Below w.heap.size w W' ∧ Row W' w.heap.size 26 (x.cells t) ∧ Row W' (w.heap.size + 1) 68 [.int .i64 z.x.a, .int .i64 z.x.b, .int .i64 z.y.a, .int .i64 z.y.b, .int .i64 z.z.a, .int .i64 z.z.b]) ∧ TnS W' W'.heap.size x t ∧ SlS W' W'.heap.size v1 s) := by intro W W' hb ⟨⟨a, b, b2⟩, c, d⟩; exact ⟨⟨Kp.from w hb a, Kp.row hb b, Kp.row hb b2⟩, Kp.tn hb c, Kp.sl hb d⟩
  have h0 : (fun W' => ((Below w.heap.size w W' ∧ Row W' w.heap.size 26 (x.cells t) ∧ Row W' (w.heap.size + 1) 68 [.int .i64 z.x.a, .int .i64 z.x.b, .int .i64 z.y.a, .int .i64 z.y.b, .int .i64 z.z.a, .int .i64 z.z.b]) ∧ TnS W' W'.heap.size x t ∧ SlS W' W'.heap.size v1 s)) W := ⟨⟨hB, r0, r1⟩, (ht.below hB).mono hB.size, (h1.below hB).mono hB.size⟩
  have MK := Lib.hid (fun (W : World) (hb : Below w.heap.size w W) (h : TnS W W.heap.size x t) (hs : SlS W W.heap.size v1 s) => make_any key s t x v1 W (HT.out.below hb) h hs OKT.out)
  have OP := Lib.hid (fun (bits : List Int) (v : Value) (W : World) h hb => open_any t x bits v W h hb OKT.out.s)
  obtain ⟨_, A1, c1, rfl, _⟩ := id h1
  obtain ⟨al, cl, ar, cr, arl, crl, arr, crr, at_, ct⟩ := x
  have hx : (TnA.cells ⟨al, cl, ar, cr, arl, crl, arr, crr, at_, ct⟩ t) = [.slice al t.l.length cl, .slice ar t.r.length cr, .slice arl t.rl.length crl, .slice arr t.rr.length crr, .slice at_ t.s.length ct] := rfl
  rw [hx] at RR h0 k0 hW MK OP ⊢
  replace hW : (w.alloc (.cells #[.slice al t.l.length cl, .slice ar t.r.length cr, .slice arl t.rl.length crl, .slice arr t.rr.length crr, .slice at_ t.s.length ct] 26)).alloc (.cells #[.int .i64 z.x.a, .int .i64 z.x.b, .int .i64 z.y.a, .int .i64 z.y.b, .int .i64 z.z.a, .int .i64 z.z.b] 68) = W := hW
  unfold Se.val at RC ⊢
  clear hT0 hz0 h1 ht hwt hat0 hB r0 r1 hB0 hx
  by_cases f1 : s.length = 0
  · have g1 : ((s.length : Int) == 0) = true := by simp [f1]
    clear f1
    go_enter Tryd.func8, Tryd.ntmps8
    go_upto_region 1 with fail
    try rw [hW]
    clear hW
    go_wp2_with (go_at_call 10; (with_reducible refine (SN.out _ h0.1.1).mono ?_); rintro e w1 ⟨rfl, hb⟩; replace h0 := k0 hb h0; clear hb; obtain ⟨e0, e1, e2, e3, e4⟩ := st5c h0.1.2.1; obtain ⟨x0, x1, x2, x3, x4, x5⟩ := st6 h0.1.2.2)
    go_ret
    exact ⟨rfl, h0.1.1⟩
  have g1 : ((s.length : Int) == 0) = false := by rw [beq_eq_false_iff_ne]; omega
  by_cases f2 : (6 : Int) < s.length
  · skip
    go_enter Tryd.func8, Tryd.ntmps8
    go_upto_region 1 with fail
    try rw [hW]
    clear hW
    go_wp2_with (go_at_call 10; (with_reducible refine (SN.out _ h0.1.1).mono ?_); rintro e w1 ⟨rfl, hb⟩; replace h0 := k0 hb h0; clear hb; obtain ⟨e0, e1, e2, e3, e4⟩ := st5c h0.1.2.1; obtain ⟨x0, x1, x2, x3, x4, x5⟩ := st6 h0.1.2.2)
    go_ret
    exact ⟨rfl, h0.1.1⟩
  cases f3 : vld key with
  | false =>
    rw [f3] at VK
    go_enter Tryd.func8, Tryd.ntmps8
    go_upto_region 1 with fail
    try rw [hW]
    clear hW
    go_wp2_with (first
      | (go_at_call 10; (with_reducible refine (SN.out _ h0.1.1).mono ?_); rintro e w1 ⟨rfl, hb⟩; replace h0 := k0 hb h0; clear hb; obtain ⟨e0, e1, e2, e3, e4⟩ := st5c h0.1.2.1; obtain ⟨x0, x1, x2, x3, x4, x5⟩ := st6 h0.1.2.2)
      | (go_at_call 30; (with_reducible refine (VK.out _).mono ?_); rintro e w2 ⟨rfl, rfl⟩))
    go_ret
    exact ⟨rfl, h0.1.1⟩
  | true =>
  rw [f3] at VK
  cases f4 : vld second with
  | false =>
    rw [f4] at VS
    go_enter Tryd.func8, Tryd.ntmps8
    go_upto_region 1 with fail
    try rw [hW]
    clear hW
    go_wp2_with (first
      | (go_at_call 10; (with_reducible refine (SN.out _ h0.1.1).mono ?_); rintro e w1 ⟨rfl, hb⟩; replace h0 := k0 hb h0; clear hb; obtain ⟨e0, e1, e2, e3, e4⟩ := st5c h0.1.2.1; obtain ⟨x0, x1, x2, x3, x4, x5⟩ := st6 h0.1.2.2)
      | (go_at_call 30; (with_reducible refine (VK.out _).mono ?_); rintro e w2 ⟨rfl, rfl⟩)
      | (go_at_call 30; (with_reducible refine (VS.out _).mono ?_); rintro e w2 ⟨rfl, rfl⟩))
    go_ret
    exact ⟨rfl, h0.1.1⟩
  | true =>
  rw [f4] at VS
  cases f5 : s.all okS with
  | false =>
    rw [f5] at FM
    go_enter Tryd.func8, Tryd.ntmps8
    go_upto_region 1 with fail
    try rw [hW]
    clear hW
    go_wp2_with (first
      | (go_at_call 10; (with_reducible refine (SN.out _ h0.1.1).mono ?_); rintro e w1 ⟨rfl, hb⟩; replace h0 := k0 hb h0; clear hb; obtain ⟨e0, e1, e2, e3, e4⟩ := st5c h0.1.2.1; obtain ⟨x0, x1, x2, x3, x4, x5⟩ := st6 h0.1.2.2)
      | (go_at_call 30; (with_reducible refine (VK.out _).mono ?_); rintro e w2 ⟨rfl, rfl⟩)
      | (go_at_call 30; (with_reducible refine (VS.out _).mono ?_); rintro e w2 ⟨rfl, rfl⟩)
      | (go_at_call 31; (with_reducible refine (FM.out _ h0.2.2).mono ?_); rintro e w3 ⟨rfl, hb⟩; replace h0 := k0 hb h0; clear hb; obtain ⟨e0, e1, e2, e3, e4⟩ := st5c h0.1.2.1; obtain ⟨x0, x1, x2, x3, x4, x5⟩ := st6 h0.1.2.2))
    go_ret
    exact ⟨rfl, h0.1.1⟩
  | true =>
  rw [f5] at FM
  cases f6 : rightB t s.length with
  | false =>
    rw [f6] at RR
    go_enter Tryd.func8, Tryd.ntmps8
    go_upto_region 1 with fail
    try rw [hW]
    clear hW
    go_wp2_with (first
      | (go_at_call 10; (with_reducible refine (SN.out _ h0.1.1).mono ?_); rintro e w1 ⟨rfl, hb⟩; replace h0 := k0 hb h0; clear hb; obtain ⟨e0, e1, e2, e3, e4⟩ := st5c h0.1.2.1; obtain ⟨x0, x1, x2, x3, x4, x5⟩ := st6 h0.1.2.2)
      | (go_at_call 30; (with_reducible refine (VK.out _).mono ?_); rintro e w2 ⟨rfl, rfl⟩)
      | (go_at_call 30; (with_reducible refine (VS.out _).mono ?_); rintro e w2 ⟨rfl, rfl⟩)
      | (go_at_call 31; (with_reducible refine (FM.out _ h0.2.2).mono ?_); rintro e w3 ⟨rfl, hb⟩; replace h0 := k0 hb h0; clear hb; obtain ⟨e0, e1, e2, e3, e4⟩ := st5c h0.1.2.1; obtain ⟨x0, x1, x2, x3, x4, x5⟩ := st6 h0.1.2.2)
      | (go_at_call 32; (with_reducible refine (RR.out _ h0.2.1).mono ?_); rintro e w4 ⟨rfl, hb⟩; replace h0 := k0 hb h0; clear hb; obtain ⟨e0, e1, e2, e3, e4⟩ := st5c h0.1.2.1; obtain ⟨x0, x1, x2, x3, x4, x5⟩ := st6 h0.1.2.2))
    go_ret
    exact ⟨rfl, h0.1.1⟩
  | true =>
  rw [f6] at RR
  have hch : chS z = if okS z then 0 else 100 := rfl
  cases f7 : okS z with
  | false =>
    rw [f7, if_neg (by decide)] at hch
    rw [hch] at RC
    clear hch
    go_enter Tryd.func8, Tryd.ntmps8
    go_upto_region 1 with fail
    try rw [hW]
    clear hW
    go_wp2_with (first
      | (go_at_call 10; (with_reducible refine (SN.out _ h0.1.1).mono ?_); rintro e w1 ⟨rfl, hb⟩; replace h0 := k0 hb h0; clear hb; obtain ⟨e0, e1, e2, e3, e4⟩ := st5c h0.1.2.1; obtain ⟨x0, x1, x2, x3, x4, x5⟩ := st6 h0.1.2.2)
      | (go_at_call 30; (with_reducible refine (VK.out _).mono ?_); rintro e w2 ⟨rfl, rfl⟩)
      | (go_at_call 30; (with_reducible refine (VS.out _).mono ?_); rintro e w2 ⟨rfl, rfl⟩)
      | (go_at_call 31; (with_reducible refine (FM.out _ h0.2.2).mono ?_); rintro e w3 ⟨rfl, hb⟩; replace h0 := k0 hb h0; clear hb; obtain ⟨e0, e1, e2, e3, e4⟩ := st5c h0.1.2.1; obtain ⟨x0, x1, x2, x3, x4, x5⟩ := st6 h0.1.2.2)
      | (go_at_call 32; (with_reducible refine (RR.out _ h0.2.1).mono ?_); rintro e w4 ⟨rfl, hb⟩; replace h0 := k0 hb h0; clear hb; obtain ⟨e0, e1, e2, e3, e4⟩ := st5c h0.1.2.1; obtain ⟨x0, x1, x2, x3, x4, x5⟩ := st6 h0.1.2.2)
      | (go_at_call 33; (with_reducible refine (RC.out _).mono ?_); rintro e w5 ⟨rfl, hb⟩; replace h0 := k0 hb h0; clear hb; obtain ⟨e0, e1, e2, e3, e4⟩ := st5c h0.1.2.1; obtain ⟨x0, x1, x2, x3, x4, x5⟩ := st6 h0.1.2.2))
    go_ret
    exact ⟨rfl, h0.1.1⟩
  | true =>
  rw [f7, if_pos rfl] at hch
  rw [hch] at RC
  clear hch
  have HF := Lib.hid (And.intro f3 (And.intro f4 (And.intro f5 (And.intro f6 f7))))
  have hE := hon_mixE f3 f5 f6
  have hC := hon_mixC f3 f5 f6
  rw [hE, hC] at MK
  obtain ⟨M, hM⟩ : ∃ M, mixTo key s t s.length = M := ⟨_, rfl⟩
  rw [hM] at MK
  have HM := Lib.hid (And.intro trivial hM)
  unfold MxA.cells at MK
  clear f3 f4 f5 f6 f7 hE hC hM
  go_enter Tryd.func8, Tryd.ntmps8
  go_upto_region 1 with fail
  try rw [hW]
  clear hW
  go_upto_region 6 with (first
    | (go_at_call 10; (with_reducible refine (SN.out _ h0.1.1).mono ?_); rintro e w1 ⟨rfl, hb⟩; replace h0 := k0 hb h0; clear hb; obtain ⟨e0, e1, e2, e3, e4⟩ := st5c h0.1.2.1; obtain ⟨x0, x1, x2, x3, x4, x5⟩ := st6 h0.1.2.2)
    | (go_at_call 30; (with_reducible refine (VK.out _).mono ?_); rintro e w2 ⟨rfl, rfl⟩)
    | (go_at_call 30; (with_reducible refine (VS.out _).mono ?_); rintro e w2 ⟨rfl, rfl⟩)
    | (go_at_call 31; (with_reducible refine (FM.out _ h0.2.2).mono ?_); rintro e w3 ⟨rfl, hb⟩; replace h0 := k0 hb h0; clear hb; obtain ⟨e0, e1, e2, e3, e4⟩ := st5c h0.1.2.1; obtain ⟨x0, x1, x2, x3, x4, x5⟩ := st6 h0.1.2.2)
    | (go_at_call 32; (with_reducible refine (RR.out _ h0.2.1).mono ?_); rintro e w4 ⟨rfl, hb⟩; replace h0 := k0 hb h0; clear hb; obtain ⟨e0, e1, e2, e3, e4⟩ := st5c h0.1.2.1; obtain ⟨x0, x1, x2, x3, x4, x5⟩ := st6 h0.1.2.2)
    | (go_at_call 33; (with_reducible refine (RC.out _).mono ?_); rintro e w5 ⟨rfl, hb⟩; replace h0 := k0 hb h0; clear hb; obtain ⟨e0, e1, e2, e3, e4⟩ := st5c h0.1.2.1; obtain ⟨x0, x1, x2, x3, x4, x5⟩ := st6 h0.1.2.2))
  go_upto_region 7 with (go_at_call 34; (with_reducible refine (MK.out _ h0.1.1 h0.2.1 h0.2.2).mono ?_); rintro e w6 ⟨y, rfl, hb, hy⟩; replace h0 := k0 hb h0; clear hb)
  clear e0 e1 e2 e3 e4 x0 x1 x2 x3 x4 x5 SN VK VS FM RR RC MK
  have rM := Row.new w6 45 [.slice y.ai M.i.length y.ci, .slice y.am M.m.length y.cm, .slice y.ao M.o.length y.co, .slice y.al M.l.length y.cl, .slice y.ar M.r.length y.cr]
  have hb := below_alloc' w6 (.cells #[.slice y.ai M.i.length y.ci, .slice y.am M.m.length y.cm, .slice y.ao M.o.length y.co, .slice y.al M.l.length y.cl, .slice y.ar M.r.length y.cr] 45)
  obtain ⟨W6, hV⟩ : ∃ V, w6.alloc (.cells #[.slice y.ai M.i.length y.ci, .slice y.am M.m.length y.cm, .slice y.ao M.o.length y.co, .slice y.al M.l.length y.cl, .slice y.ar M.r.length y.cr] 45) = V := ⟨_, rfl⟩
  replace rM : Row W6 w6.heap.size 45 [.slice y.ai M.i.length y.ci, .slice y.am M.m.length y.cm, .slice y.ao M.o.length y.co, .slice y.al M.l.length y.cl, .slice y.ar M.r.length y.cr] := hV ▸ rM
  rw [hV] at hb ⊢
  clear hV
  replace h0 := k0 hb h0
  replace hy := Kp.mx hb hy
  clear hb
  generalize w6.heap.size = g14 at rM ⊢
  have k1 : Kp fun W' => (((Below w.heap.size w W' ∧ Row W' w.heap.size 26 [.slice al t.l.length cl, .slice ar t.r.length cr, .slice arl t.rl.length crl, .slice arr t.rr.length crr, .slice at_ t.s.length ct] ∧ Row W' (w.heap.size + 1) 68 [.int .i64 z.x.a, .int .i64 z.x.b, .int .i64 z.y.a, .int .i64 z.y.b, .int .i64 z.z.a, .int .i64 z.z.b]) ∧ TnS W' W'.heap.size ⟨al, cl, ar, cr, arl, crl, arr, crr, at_, ct⟩ t ∧ SlS W' W'.heap.size (.slice A1 s.length c1) s) ∧ Row W' g14 45 [.slice y.ai M.i.length y.ci, .slice y.am M.m.length y.cm, .slice y.ao M.o.length y.co, .slice y.al M.l.length y.cl, .slice y.ar M.r.length y.cr] ∧ MxS W' W'.heap.size y M) := by intro W W' hb ⟨a, b, c⟩; exact ⟨k0 hb a, Kp.row hb b, Kp.mx hb c⟩
  have h1 : (fun W' => (((Below w.heap.size w W' ∧ Row W' w.heap.size 26 [.slice al t.l.length cl, .slice ar t.r.length cr, .slice arl t.rl.length crl, .slice arr t.rr.length crr, .slice at_ t.s.length ct] ∧ Row W' (w.heap.size + 1) 68 [.int .i64 z.x.a, .int .i64 z.x.b, .int .i64 z.y.a, .int .i64 z.y.b, .int .i64 z.z.a, .int .i64 z.z.b]) ∧ TnS W' W'.heap.size ⟨al, cl, ar, cr, arl, crl, arr, crr, at_, ct⟩ t ∧ SlS W' W'.heap.size (.slice A1 s.length c1) s) ∧ Row W' g14 45 [.slice y.ai M.i.length y.ci, .slice y.am M.m.length y.cm, .slice y.ao M.o.length y.co, .slice y.al M.l.length y.cl, .slice y.ar M.r.length y.cr] ∧ MxS W' W'.heap.size y M)) W6 := ⟨h0, rM, hy⟩
  clear h0 rM hy k0
  obtain ⟨Z, hZ⟩ : ∃ Z, (List.replicate s.length (Value.int .i64 0)).toArray = Z := ⟨_, rfl⟩
  have hmk : ∀ w : World, (Instr.makeSlice 22 (.int .i64 (s.length : Int)) (.int .i64 (s.length : Int))).run Tryd.prog w = .ok (.slice (some ⟨w.heap.size, 0, none⟩) s.length s.length) (w.alloc (.cells Z 3)) := fun w => by rw [← hZ]; exact make_ints _ (by omega) w
  go_upto_region 8 with fail
  have hzr : SlI (W6.alloc (.cells Z 3)) (W6.alloc (.cells Z 3)).heap.size (.slice (some ⟨W6.heap.size, 0, none⟩) s.length s.length) (List.replicate s.length 0) := by
    have := Row.sl (m := 1) (enc := encI) (c := s.length) (l := List.replicate s.length (0 : Int)) (B0 := W6.heap.size + 1) (w := W6.alloc (.cells Z 3)) (g := W6.heap.size) (t := 3) (by
      rw [flat_ints, List.map_replicate, ← hZ]
      exact Row.new W6 _ _) (fun _ => rfl) (by rw [List.length_replicate]; omega) (Nat.lt_succ_self _)
    rw [List.length_replicate] at this
    rw [World.size_alloc]
    exact this
  have hb := below_alloc' W6 (.cells Z 3)
  replace h1 := k1 hb h1
  clear hb hmk hZ
  generalize W6.alloc (.cells Z 3) = W7 at *
  generalize W6.heap.size = gz at *
  have hbl : (List.replicate s.length (0 : Int)).length = s.length := List.length_replicate
  have hz := zeros_get s.length
  generalize List.replicate s.length (0 : Int) = zs at *
  have k2 : Kp fun W' => ((((Below w.heap.size w W' ∧ Row W' w.heap.size 26 [.slice al t.l.length cl, .slice ar t.r.length cr, .slice arl t.rl.length crl, .slice arr t.rr.length crr, .slice at_ t.s.length ct] ∧ Row W' (w.heap.size + 1) 68 [.int .i64 z.x.a, .int .i64 z.x.b, .int .i64 z.y.a, .int .i64 z.y.b, .int .i64 z.z.a, .int .i64 z.z.b]) ∧ TnS W' W'.heap.size ⟨al, cl, ar, cr, arl, crl, arr, crr, at_, ct⟩ t ∧ SlS W' W'.heap.size (.slice A1 s.length c1) s) ∧ Row W' g14 45 [.slice y.ai M.i.length y.ci, .slice y.am M.m.length y.cm, .slice y.ao M.o.length y.co, .slice y.al M.l.length y.cl, .slice y.ar M.r.length y.cr] ∧ MxS W' W'.heap.size y M) ∧ SlI W' W'.heap.size (.slice (some ⟨gz, 0, none⟩) s.length s.length) zs) := by intro W W' hb ⟨a, b⟩; exact ⟨k1 hb a, Kp.sl hb b⟩
  have h2 : (fun W' => ((((Below w.heap.size w W' ∧ Row W' w.heap.size 26 [.slice al t.l.length cl, .slice ar t.r.length cr, .slice arl t.rl.length crl, .slice arr t.rr.length crr, .slice at_ t.s.length ct] ∧ Row W' (w.heap.size + 1) 68 [.int .i64 z.x.a, .int .i64 z.x.b, .int .i64 z.y.a, .int .i64 z.y.b, .int .i64 z.z.a, .int .i64 z.z.b]) ∧ TnS W' W'.heap.size ⟨al, cl, ar, cr, arl, crl, arr, crr, at_, ct⟩ t ∧ SlS W' W'.heap.size (.slice A1 s.length c1) s) ∧ Row W' g14 45 [.slice y.ai M.i.length y.ci, .slice y.am M.m.length y.cm, .slice y.ao M.o.length y.co, .slice y.al M.l.length y.cl, .slice y.ar M.r.length y.cr] ∧ MxS W' W'.heap.size y M) ∧ SlI W' W'.heap.size (.slice (some ⟨gz, 0, none⟩) s.length s.length) zs)) W7 := ⟨h1, hzr⟩
  clear h1 hzr k1
  have hz0 : ∀ j, j < s.length → zs.getD j default = 0 := fun j hj => hz j (by omega)
  have hzb : zs.all bitB = true := bits_yes fun j hj => .inl (hz j hj)
  have hob := opp_bits hzb
  have hol : (opp zs).length = s.length := by rw [opp_length, hbl]
  have ho1 : ∀ j, j < s.length → (opp zs).getD j default = 1 := fun j hj => by rw [opp_get (by omega), hz0 j hj]; rfl
  have OPP := Lib.hid (fun W h => opposite_any zs (.slice (some ⟨gz, 0, none⟩) s.length s.length) W h (by omega) (fun i hi => by rw [hz i hi]; decide))
  have OP1 := Lib.hid (fun v W => OP.out zs v W)
  have OP2 := Lib.hid (fun v W => OP.out (opp zs) v W)
  rw [(hon_openC (by rw [hbl]; exact HF.out.2.2.2.1) hzb).1, (hon_openC (by rw [hbl]; exact HF.out.2.2.2.1) hzb).2] at OP1
  rw [(hon_openC (by rw [hol]; exact HF.out.2.2.2.1) hob).1, (hon_openC (by rw [hol]; exact HF.out.2.2.2.1) hob).2] at OP2
  clear OP
  obtain ⟨ones, hones⟩ : ∃ ones, opp zs = ones := ⟨_, rfl⟩
  rw [hones] at OPP OP2 hob hol ho1
  clear hones hz
  obtain ⟨OL, hOL⟩ : ∃ OL, openTo t zs zs.length = OL := ⟨_, rfl⟩
  obtain ⟨OO, hOO⟩ : ∃ OO, openTo t ones ones.length = OO := ⟨_, rfl⟩
  rw [hOL] at OP1
  rw [hOO] at OP2
  have HOL := Lib.hid (And.intro trivial hOL)
  have HOO := Lib.hid (And.intro trivial hOO)
  have HZ0 := Lib.hid hz0
  have HO1 := Lib.hid ho1
  have HZB := Lib.hid hzb
  have HOB := Lib.hid hob
  have HBL := Lib.hid hbl
  have HOLN := Lib.hid hol
  clear hOL hOO hz0 ho1 hzb hob hbl hol
  go_upto_region 9 with (go_at_call 23; (with_reducible refine (OPP.out _ h2.2).mono ?_); rintro e w8 ⟨v17, rfl, hb, hv17⟩; replace h2 := k2 hb h2; clear hb)
  have k3 : Kp fun W' => (((((Below w.heap.size w W' ∧ Row W' w.heap.size 26 [.slice al t.l.length cl, .slice ar t.r.length cr, .slice arl t.rl.length crl, .slice arr t.rr.length crr, .slice at_ t.s.length ct] ∧ Row W' (w.heap.size + 1) 68 [.int .i64 z.x.a, .int .i64 z.x.b, .int .i64 z.y.a, .int .i64 z.y.b, .int .i64 z.z.a, .int .i64 z.z.b]) ∧ TnS W' W'.heap.size ⟨al, cl, ar, cr, arl, crl, arr, crr, at_, ct⟩ t ∧ SlS W' W'.heap.size (.slice A1 s.length c1) s) ∧ Row W' g14 45 [.slice y.ai M.i.length y.ci, .slice y.am M.m.length y.cm, .slice y.ao M.o.length y.co, .slice y.al M.l.length y.cl, .slice y.ar M.r.length y.cr] ∧ MxS W' W'.heap.size y M) ∧ SlI W' W'.heap.size (.slice (some ⟨gz, 0, none⟩) s.length s.length) zs) ∧ SlI W' W'.heap.size v17 ones) := by intro W W' hb ⟨a, b⟩; exact ⟨k2 hb a, Kp.sl hb b⟩
  have h3 : (fun W' => (((((Below w.heap.size w W' ∧ Row W' w.heap.size 26 [.slice al t.l.length cl, .slice ar t.r.length cr, .slice arl t.rl.length crl, .slice arr t.rr.length crr, .slice at_ t.s.length ct] ∧ Row W' (w.heap.size + 1) 68 [.int .i64 z.x.a, .int .i64 z.x.b, .int .i64 z.y.a, .int .i64 z.y.b, .int .i64 z.z.a, .int .i64 z.z.b]) ∧ TnS W' W'.heap.size ⟨al, cl, ar, cr, arl, crl, arr, crr, at_, ct⟩ t ∧ SlS W' W'.heap.size (.slice A1 s.length c1) s) ∧ Row W' g14 45 [.slice y.ai M.i.length y.ci, .slice y.am M.m.length y.cm, .slice y.ao M.o.length y.co, .slice y.al M.l.length y.cl, .slice y.ar M.r.length y.cr] ∧ MxS W' W'.heap.size y M) ∧ SlI W' W'.heap.size (.slice (some ⟨gz, 0, none⟩) s.length s.length) zs) ∧ SlI W' W'.heap.size v17 ones)) w8 := ⟨h2, hv17⟩
  clear h2 hv17 k2
  obtain ⟨e0, e1, e2, e3, e4⟩ := st5c h3.1.1.1.1.2.1
  go_upto_region 10 with (go_at_call 13; (with_reducible refine (OP1.out _ _ h3.1.1.1.2.1 h3.1.2).mono ?_); rintro e w9 ⟨v18, rfl, hb, hv18⟩; replace h3 := k3 hb h3; clear hb)
  clear e0 e1 e2 e3 e4
  have k4 : Kp fun W' => ((((((Below w.heap.size w W' ∧ Row W' w.heap.size 26 [.slice al t.l.length cl, .slice ar t.r.length cr, .slice arl t.rl.length crl, .slice arr t.rr.length crr, .slice at_ t.s.length ct] ∧ Row W' (w.heap.size + 1) 68 [.int .i64 z.x.a, .int .i64 z.x.b, .int .i64 z.y.a, .int .i64 z.y.b, .int .i64 z.z.a, .int .i64 z.z.b]) ∧ TnS W' W'.heap.size ⟨al, cl, ar, cr, arl, crl, arr, crr, at_, ct⟩ t ∧ SlS W' W'.heap.size (.slice A1 s.length c1) s) ∧ Row W' g14 45 [.slice y.ai M.i.length y.ci, .slice y.am M.m.length y.cm, .slice y.ao M.o.length y.co, .slice y.al M.l.length y.cl, .slice y.ar M.r.length y.cr] ∧ MxS W' W'.heap.size y M) ∧ SlI W' W'.heap.size (.slice (some ⟨gz, 0, none⟩) s.length s.length) zs) ∧ SlI W' W'.heap.size v17 ones) ∧ SlG 36 Og.cells W' W'.heap.size v18 OL) := by intro W W' hb ⟨a, b⟩; exact ⟨k3 hb a, Kp.sl hb b⟩
  have h4 : (fun W' => ((((((Below w.heap.size w W' ∧ Row W' w.heap.size 26 [.slice al t.l.length cl, .slice ar t.r.length cr, .slice arl t.rl.length crl, .slice arr t.rr.length crr, .slice at_ t.s.length ct] ∧ Row W' (w.heap.size + 1) 68 [.int .i64 z.x.a, .int .i64 z.x.b, .int .i64 z.y.a, .int .i64 z.y.b, .int .i64 z.z.a, .int .i64 z.z.b]) ∧ TnS W' W'.heap.size ⟨al, cl, ar, cr, arl, crl, arr, crr, at_, ct⟩ t ∧ SlS W' W'.heap.size (.slice A1 s.length c1) s) ∧ Row W' g14 45 [.slice y.ai M.i.length y.ci, .slice y.am M.m.length y.cm, .slice y.ao M.o.length y.co, .slice y.al M.l.length y.cl, .slice y.ar M.r.length y.cr] ∧ MxS W' W'.heap.size y M) ∧ SlI W' W'.heap.size (.slice (some ⟨gz, 0, none⟩) s.length s.length) zs) ∧ SlI W' W'.heap.size v17 ones) ∧ SlG 36 Og.cells W' W'.heap.size v18 OL)) w9 := ⟨h3, hv18⟩
  clear h3 hv18 k3
  obtain ⟨e0, e1, e2, e3, e4⟩ := st5c h4.1.1.1.1.1.2.1
  go_upto_region 11 with (go_at_call 13; (with_reducible refine (OP2.out _ _ h4.1.1.1.1.2.1 h4.1.2).mono ?_); rintro e w10 ⟨v20, rfl, hb, hv20⟩; replace h4 := k4 hb h4; clear hb)
  clear e0 e1 e2 e3 e4
  have k5 : Kp fun W' => (((((((Below w.heap.size w W' ∧ Row W' w.heap.size 26 [.slice al t.l.length cl, .slice ar t.r.length cr, .slice arl t.rl.length crl, .slice arr t.rr.length crr, .slice at_ t.s.length ct] ∧ Row W' (w.heap.size + 1) 68 [.int .i64 z.x.a, .int .i64 z.x.b, .int .i64 z.y.a, .int .i64 z.y.b, .int .i64 z.z.a, .int .i64 z.z.b]) ∧ TnS W' W'.heap.size ⟨al, cl, ar, cr, arl, crl, arr, crr, at_, ct⟩ t ∧ SlS W' W'.heap.size (.slice A1 s.length c1) s) ∧ Row W' g14 45 [.slice y.ai M.i.length y.ci, .slice y.am M.m.length y.cm, .slice y.ao M.o.length y.co, .slice y.al M.l.length y.cl, .slice y.ar M.r.length y.cr] ∧ MxS W' W'.heap.size y M) ∧ SlI W' W'.heap.size (.slice (some ⟨gz, 0, none⟩) s.length s.length) zs) ∧ SlI W' W'.heap.size v17 ones) ∧ SlG 36 Og.cells W' W'.heap.size v18 OL) ∧ SlG 36 Og.cells W' W'.heap.size v20 OO) := by intro W W' hb ⟨a, b⟩; exact ⟨k4 hb a, Kp.sl hb b⟩
  have h5 : (fun W' => (((((((Below w.heap.size w W' ∧ Row W' w.heap.size 26 [.slice al t.l.length cl, .slice ar t.r.length cr, .slice arl t.rl.length crl, .slice arr t.rr.length crr, .slice at_ t.s.length ct] ∧ Row W' (w.heap.size + 1) 68 [.int .i64 z.x.a, .int .i64 z.x.b, .int .i64 z.y.a, .int .i64 z.y.b, .int .i64 z.z.a, .int .i64 z.z.b]) ∧ TnS W' W'.heap.size ⟨al, cl, ar, cr, arl, crl, arr, crr, at_, ct⟩ t ∧ SlS W' W'.heap.size (.slice A1 s.length c1) s) ∧ Row W' g14 45 [.slice y.ai M.i.length y.ci, .slice y.am M.m.length y.cm, .slice y.ao M.o.length y.co, .slice y.al M.l.length y.cl, .slice y.ar M.r.length y.cr] ∧ MxS W' W'.heap.size y M) ∧ SlI W' W'.heap.size (.slice (some ⟨gz, 0, none⟩) s.length s.length) zs) ∧ SlI W' W'.heap.size v17 ones) ∧ SlG 36 Og.cells W' W'.heap.size v18 OL) ∧ SlG 36 Og.cells W' W'.heap.size v20 OO)) w10 := ⟨h4, hv20⟩
  clear h4 hv20 k4
  have hmo : M.o.length = s.length := by rw [← HM.out.2]; exact layTo_length _ _ _ _ _
  have hmm : M.m.length = s.length := by rw [← HM.out.2, hon_m]; simp
  have q1 : ((M.o.length : Int) != s.length) = false := by rw [hmo]; simp
  have q2 : ((M.m.length : Int) != s.length) = false := by rw [hmm]; simp
  obtain ⟨k, hk, hkn⟩ : ∃ k : Nat, (wrap64 at0).tmod s.length = (k : Int) ∧ k < s.length := by
    have hA := HAT.out
    obtain ⟨A, rfl⟩ : ∃ A : Nat, at0 = (A : Int) := ⟨at0.toNat, by omega⟩
    refine ⟨A % s.length, ?_, Nat.mod_lt _ (by omega)⟩
    rw [show wrap64 (A : Int) = A by unfold wrap64; omega]; rfl
  have hin : (wrap64 at0).tmod s.length = (k : Int) := hk
  obtain ⟨m0, m1, m2, m3, m4⟩ := st5c h5.1.1.1.1.2.1
  go_upto_region 14 with fail
  clear hk hin q1 q2 HAT
  go_upto_region 15 with fail
  have rC := Row.new w10 45 [.slice y.ai M.i.length y.ci, .slice y.am s.length y.cm, .slice y.ao s.length y.co, .slice y.al M.l.length y.cl, .slice y.ar M.r.length y.cr]
  have hb0 := below_alloc' w10 (.cells #[.slice y.ai M.i.length y.ci, .slice y.am s.length y.cm, .slice y.ao s.length y.co, .slice y.al M.l.length y.cl, .slice y.ar M.r.length y.cr] 45)
  obtain ⟨W11, hV⟩ : ∃ V, w10.alloc (.cells #[.slice y.ai M.i.length y.ci, .slice y.am s.length y.cm, .slice y.ao s.length y.co, .slice y.al M.l.length y.cl, .slice y.ar M.r.length y.cr] 45) = V := ⟨_, rfl⟩
  have hz11 : w10.heap.size < W11.heap.size := by rw [← hV, World.size_alloc]; omega
  replace rC : Row W11 w10.heap.size 45 [.slice y.ai M.i.length y.ci, .slice y.am s.length y.cm, .slice y.ao s.length y.co, .slice y.al M.l.length y.cl, .slice y.ar M.r.length y.cr] := hV ▸ rC
  rw [hV] at hb0 ⊢
  clear hV m0 m1 m2 m3 m4
  have r14 := h5.1.1.1.1.2.1.below hb0 h5.1.1.1.1.2.1.lt
  rw [hmo, hmm] at r14
  have so := h5.1.1.1.1.2.2.o.below (hb0.alloc hb0.size (.cells #[] 68))
  have r14' := r14.alloc (.cells #[] 68)
  have rC' := rC.alloc (.cells #[] 68)
  have own0 := own_empty6 W11 68
  obtain ⟨V12, hV⟩ : ∃ V, W11.alloc (.cells #[] 68) = V := ⟨_, rfl⟩
  have hz12 : V12.heap.size = W11.heap.size + 1 := by rw [← hV, World.size_alloc]
  have hb12 := hb0.alloc hb0.size (.cells #[] 68)
  rw [hV] at so r14' rC' own0 hb12
  obtain ⟨m0, m1, m2, m3, m4⟩ := st5c r14'
  rw [hmo] at so
  obtain ⟨ad, had⟩ := se_some so (by omega)
  rw [had] at so m2
  obtain ⟨j0, hj, hy0, hy1, hy2⟩ := info_parts infoS6
  go_upto_region 16 with ((at_builtin; refine wpList_append_lies _ rfl _ _ 42 rfl W11.heap.size 68 j0 (.agg #[.int .i64 0, .int .i64 0, .int .i64 0, .int .i64 0, .int .i64 0, .int .i64 0]) 6 48 Tryd.underlying42 hj hy0 hy1 hy2 rfl (by decide) _ _ _ rfl own0 ad s.length y.co (M.o.flatMap encS) rfl (by rw [flat_len6, hmo]) (news_se hmo.symm so (by omega)) (se_ones _) (by omega) (by unfold maxLen; omega) (by omega) (by omega) _ rfl ?_; intro g3 cap3 w13 hown hgr hat hlt3; have hb13 := hb12.grown hgr (by omega) (fun r e => by have e1 : W11.heap.size = r := Option.some.inj e; omega); have rc13 := rC'.below ((Below.refl (w10.heap.size + 1) V12).grown hgr (by omega) (fun r e => by have e1 : W11.heap.size = r := Option.some.inj e; omega)) (Nat.lt_succ_self _); obtain ⟨n0, n1, n2, n3, n4⟩ := st5c rc13; have nf := Row.frozen rc13 2))
  obtain ⟨g3', cap', ex, hv, hg3, rX⟩ := own_rowx hown (by omega)
  cases hv
  rw [List.nil_append] at rX
  have hne : g3 ≠ w10.heap.size := by omega
  have rX14 := rX.other (p := ⟨w10.heap.size, 2, none⟩) hne (.slice (some ⟨g3, 0, none⟩) s.length cap3)
  have rC14 := rc13.store 2 (.slice (some ⟨g3, 0, none⟩) s.length cap3)
  have hb14 := hb13.setCell (p := ⟨w10.heap.size, 2, none⟩) (Nat.le_refl _) (.slice (some ⟨g3, 0, none⟩) s.length cap3)
  obtain ⟨w14, hW14⟩ : ∃ V, w13.setCell ⟨w10.heap.size, 2, none⟩ (.slice (some ⟨g3, 0, none⟩) s.length cap3) = V := ⟨_, rfl⟩
  rw [hW14] at rX14 rC14 hb14 ⊢
  clear hW14 hown hgr hat hb13 rc13 n0 n1 n2 n3 n4 nf m0 m1 m2 m3 m4 so own0 r14' rC' hb12 rX
  replace rC14 : Row w14 w10.heap.size 45 [.slice y.ai M.i.length y.ci, .slice y.am s.length y.cm, .slice (some ⟨g3, 0, none⟩) s.length cap3, .slice y.al M.l.length y.cl, .slice y.ar M.r.length y.cr] := rC14
  obtain ⟨n0, n1, n2, n3, n4⟩ := st5c rC14
  obtain ⟨x0, x1, x2, x3, x4, x5⟩ := st6 (h5.1.1.1.1.1.1.2.2.below hb14 h5.1.1.1.1.1.1.2.2.lt)
  obtain ⟨c0, c1', c2, c3, c4, c5⟩ := cells6x rX14 (k := k) (by omega) (by omega)
  have ff := fun i => Row.frozen rX14 i
  go_upto_region 17 with fail
  obtain ⟨w15, hW15⟩ : ∃ V, put6 w14 g3 (k * 6) z = V := ⟨_, rfl⟩
  have rX15 := put6_atx rX14 (k := k) (by omega) z
  have rC15 : Row (put6 w14 g3 (k * 6) z) w10.heap.size _ _ := put6_other rC14 hne.symm
  have hb15 : Below w10.heap.size w10 (put6 w14 g3 (k * 6) z) := put6_below hb14 (by omega)
  rw [hW15] at rX15 rC15 hb15
  replace hW15 : (((((w14.setCell ⟨g3, k * 6, none⟩ (.int .i64 z.x.a)).setCell ⟨g3, k * 6 + 1, none⟩ (.int .i64 z.x.b)).setCell ⟨g3, k * 6 + 2, none⟩ (.int .i64 z.y.a)).setCell ⟨g3, k * 6 + 3, none⟩ (.int .i64 z.y.b)).setCell ⟨g3, k * 6 + 4, none⟩ (.int .i64 z.z.a)).setCell ⟨g3, k * 6 + 5, none⟩ (.int .i64 z.z.b) = w15 := hW15
  rw [hW15]
  have h6o : SlS w15 w15.heap.size (.slice (some ⟨g3, 0, none⟩) s.length cap3) (M.o.set k z) := by
    have := rowx_sl (c := cap3) (B0 := w15.heap.size) rX15 (by rw [List.length_set]; omega) rX15.lt
    rw [List.length_set, hmo] at this
    exact this
  replace h5 := k5 hb15 h5
  clear hW15 n0 n1 n2 n3 n4 x0 x1 x2 x3 x4 x5 c0 c1' c2 c3 c4 c5 ff rX14 rC14 hb14 rX15 hb15 rC hb0 hz11 hz12 hg3 hlt3 r14 hne hV had j0 hj hy0 hy1 hy2
  generalize w10.heap.size = g23 at rC15 ⊢
  have k6 : Kp fun W' => ((((((((Below w.heap.size w W' ∧ Row W' w.heap.size 26 [.slice al t.l.length cl, .slice ar t.r.length cr, .slice arl t.rl.length crl, .slice arr t.rr.length crr, .slice at_ t.s.length ct] ∧ Row W' (w.heap.size + 1) 68 [.int .i64 z.x.a, .int .i64 z.x.b, .int .i64 z.y.a, .int .i64 z.y.b, .int .i64 z.z.a, .int .i64 z.z.b]) ∧ TnS W' W'.heap.size ⟨al, cl, ar, cr, arl, crl, arr, crr, at_, ct⟩ t ∧ SlS W' W'.heap.size (.slice A1 s.length c1) s) ∧ Row W' g14 45 [.slice y.ai M.i.length y.ci, .slice y.am M.m.length y.cm, .slice y.ao M.o.length y.co, .slice y.al M.l.length y.cl, .slice y.ar M.r.length y.cr] ∧ MxS W' W'.heap.size y M) ∧ SlI W' W'.heap.size (.slice (some ⟨gz, 0, none⟩) s.length s.length) zs) ∧ SlI W' W'.heap.size v17 ones) ∧ SlG 36 Og.cells W' W'.heap.size v18 OL) ∧ SlG 36 Og.cells W' W'.heap.size v20 OO) ∧ Row W' g23 45 [.slice y.ai M.i.length y.ci, .slice y.am s.length y.cm, .slice (some ⟨g3, 0, none⟩) s.length cap3, .slice y.al M.l.length y.cl, .slice y.ar M.r.length y.cr] ∧ SlS W' W'.heap.size (.slice (some ⟨g3, 0, none⟩) s.length cap3) (M.o.set k z)) := by intro W W' hb ⟨a, b, c⟩; exact ⟨k5 hb a, Kp.row hb b, Kp.sl hb c⟩
  have h6 : (fun W' => ((((((((Below w.heap.size w W' ∧ Row W' w.heap.size 26 [.slice al t.l.length cl, .slice ar t.r.length cr, .slice arl t.rl.length crl, .slice arr t.rr.length crr, .slice at_ t.s.length ct] ∧ Row W' (w.heap.size + 1) 68 [.int .i64 z.x.a, .int .i64 z.x.b, .int .i64 z.y.a, .int .i64 z.y.b, .int .i64 z.z.a, .int .i64 z.z.b]) ∧ TnS W' W'.heap.size ⟨al, cl, ar, cr, arl, crl, arr, crr, at_, ct⟩ t ∧ SlS W' W'.heap.size (.slice A1 s.length c1) s) ∧ Row W' g14 45 [.slice y.ai M.i.length y.ci, .slice y.am M.m.length y.cm, .slice y.ao M.o.length y.co, .slice y.al M.l.length y.cl, .slice y.ar M.r.length y.cr] ∧ MxS W' W'.heap.size y M) ∧ SlI W' W'.heap.size (.slice (some ⟨gz, 0, none⟩) s.length s.length) zs) ∧ SlI W' W'.heap.size v17 ones) ∧ SlG 36 Og.cells W' W'.heap.size v18 OL) ∧ SlG 36 Og.cells W' W'.heap.size v20 OO) ∧ Row W' g23 45 [.slice y.ai M.i.length y.ci, .slice y.am s.length y.cm, .slice (some ⟨g3, 0, none⟩) s.length cap3, .slice y.al M.l.length y.cl, .slice y.ar M.r.length y.cr] ∧ SlS W' W'.heap.size (.slice (some ⟨g3, 0, none⟩) s.length cap3) (M.o.set k z))) w15 := ⟨h5, rC15, h6o⟩
  clear rC15 h6o
  have hMO : MxOK M := by
    rw [← HM.out.2]
    exact ⟨fun i hi => by
      have hi' : i < s.length := by simpa [mixTo] using hi
      rw [show (mixTo key s t s.length).l.getD i default = comN tagL (ogL t i) from map_range_get (fun j => comN tagL (ogL t j)) hi']
      exact comN_length _ _, fun i hi => by
      have hi' : i < s.length := by simpa [mixTo] using hi
      rw [show (mixTo key s t s.length).r.getD i default = comN tagR (ogR t i) from map_range_get (fun j => comN tagR (ogR t j)) hi']
      exact comN_length _ _⟩
  have hpf := rightB_facts HF.out.2.2.2.1
  have hok1 : ∀ bits : List Int, bits.all bitB = true → bits.length = s.length → ∀ i, i < (openTo t bits bits.length).length → ((openTo t bits bits.length).getD i default).ok := fun bits hball hbl i hi => by
    rw [openTo_len] at hi
    rw [openTo_get bits hi]
    rcases bit_at hball hi with e | e <;> rw [e]
    · exact OKT.out.l i (by omega) (by omega) (by omega)
    · exact OKT.out.r i (by omega) (by omega) (by omega)
  have hOL := hok1 zs HZB.out HBL.out
  have hOO := hok1 ones HOB.out HOLN.out
  rw [HOL.out.2] at hOL
  rw [HOO.out.2] at hOO
  clear hok1 hpf
  have HMOK := Lib.hid hMO
  have HOLK := Lib.hid hOL
  have HOOK := Lib.hid hOO
  clear hMO hOL hOO
  have MX6 : ∀ W' : World, ((((((((Below w.heap.size w W' ∧ Row W' w.heap.size 26 [.slice al t.l.length cl, .slice ar t.r.length cr, .slice arl t.rl.length crl, .slice arr t.rr.length crr, .slice at_ t.s.length ct] ∧ Row W' (w.heap.size + 1) 68 [.int .i64 z.x.a, .int .i64 z.x.b, .int .i64 z.y.a, .int .i64 z.y.b, .int .i64 z.z.a, .int .i64 z.z.b]) ∧ TnS W' W'.heap.size ⟨al, cl, ar, cr, arl, crl, arr, crr, at_, ct⟩ t ∧ SlS W' W'.heap.size (.slice A1 s.length c1) s) ∧ Row W' g14 45 [.slice y.ai M.i.length y.ci, .slice y.am M.m.length y.cm, .slice y.ao M.o.length y.co, .slice y.al M.l.length y.cl, .slice y.ar M.r.length y.cr] ∧ MxS W' W'.heap.size y M) ∧ SlI W' W'.heap.size (.slice (some ⟨gz, 0, none⟩) s.length s.length) zs) ∧ SlI W' W'.heap.size v17 ones) ∧ SlG 36 Og.cells W' W'.heap.size v18 OL) ∧ SlG 36 Og.cells W' W'.heap.size v20 OO) ∧ Row W' g23 45 [.slice y.ai M.i.length y.ci, .slice y.am s.length y.cm, .slice (some ⟨g3, 0, none⟩) s.length cap3, .slice y.al M.l.length y.cl, .slice y.ar M.r.length y.cr] ∧ SlS W' W'.heap.size (.slice (some ⟨g3, 0, none⟩) s.length cap3) (M.o.set k z)) → MxS W' W'.heap.size ⟨y.ai, y.ci, y.am, y.cm, some ⟨g3, 0, none⟩, cap3, y.al, y.cl, y.ar, y.cr⟩ { M with o := M.o.set k z } := fun W' h =>
    ⟨h.1.1.1.1.1.2.2.i, h.1.1.1.1.1.2.2.m, by have := h.2.2; rw [show s.length = (M.o.set k z).length by rw [List.length_set, hmo]] at this; exact this, h.1.1.1.1.1.2.2.l, h.1.1.1.1.1.2.2.r⟩
  have CK6 : checkB key { M with o := M.o.set k z } ones OO = false → ∀ W' : World, ((((((((Below w.heap.size w W' ∧ Row W' w.heap.size 26 [.slice al t.l.length cl, .slice ar t.r.length cr, .slice arl t.rl.length crl, .slice arr t.rr.length crr, .slice at_ t.s.length ct] ∧ Row W' (w.heap.size + 1) 68 [.int .i64 z.x.a, .int .i64 z.x.b, .int .i64 z.y.a, .int .i64 z.y.b, .int .i64 z.z.a, .int .i64 z.z.b]) ∧ TnS W' W'.heap.size ⟨al, cl, ar, cr, arl, crl, arr, crr, at_, ct⟩ t ∧ SlS W' W'.heap.size (.slice A1 s.length c1) s) ∧ Row W' g14 45 [.slice y.ai M.i.length y.ci, .slice y.am M.m.length y.cm, .slice y.ao M.o.length y.co, .slice y.al M.l.length y.cl, .slice y.ar M.r.length y.cr] ∧ MxS W' W'.heap.size y M) ∧ SlI W' W'.heap.size (.slice (some ⟨gz, 0, none⟩) s.length s.length) zs) ∧ SlI W' W'.heap.size v17 ones) ∧ SlG 36 Og.cells W' W'.heap.size v18 OL) ∧ SlG 36 Og.cells W' W'.heap.size v20 OO) ∧ Row W' g23 45 [.slice y.ai M.i.length y.ci, .slice y.am s.length y.cm, .slice (some ⟨g3, 0, none⟩) s.length cap3, .slice y.al M.l.length y.cl, .slice y.ar M.r.length y.cr] ∧ SlS W' W'.heap.size (.slice (some ⟨g3, 0, none⟩) s.length cap3) (M.o.set k z)) → Calls Tryd.prog 22 #[.int .i64 key, .agg #[.slice y.ai M.i.length y.ci, .slice y.am s.length y.cm, .slice (some ⟨g3, 0, none⟩) s.length cap3, .slice y.al M.l.length y.cl, .slice y.ar M.r.length y.cr], v17, v20] W' fun e w' => e = .returned (.bool false) ∧ Below W'.heap.size W' w' := by
    intro hc W' h
    have := check_any key ⟨y.ai, y.ci, y.am, y.cm, some ⟨g3, 0, none⟩, cap3, y.al, y.cl, y.ar, y.cr⟩ { M with o := M.o.set k z } ones OO v17 v20 W' (HT.out.below h.1.1.1.1.1.1.1.1) (MX6 W' h) h.1.1.1.2 h.1.2 ⟨HMOK.out.l, HMOK.out.r⟩ HOOK.out
    rw [hc] at this
    unfold MxA.cells at this
    dsimp only at this
    rw [List.length_set, hmo, hmm] at this
    exact this
  have CK6 := Lib.hid CK6
  clear MX6
  obtain ⟨bo, oo, hao, _⟩ := sl_at h6.1.1.1.1.1.2.2.o (j := k) (by omega)
  obtain ⟨bm, om, ham, _⟩ := sl_at h6.1.1.1.1.1.2.2.m (j := k) (by omega)
  obtain ⟨P, hP⟩ : ∃ P, M.o.getD k default = P := ⟨_, rfl⟩
  obtain ⟨Pm, hPm⟩ : ∃ Pm, M.m.getD k default = Pm := ⟨_, rfl⟩
  have e5 : ([.slice y.ai M.i.length y.ci, .slice y.am M.m.length y.cm, .slice y.ao M.o.length y.co, .slice y.al M.l.length y.cl, .slice y.ar M.r.length y.cr] : List Value) = [.slice y.ai M.i.length y.ci, .slice (some ⟨bm, om, none⟩) s.length y.cm, .slice (some ⟨bo, oo, none⟩) s.length y.co, .slice y.al M.l.length y.cl, .slice y.ar M.r.length y.cr] := by rw [hmm, hmo, hao, ham]
  have HC1 := Lib.hid (fun W' (h : ((((((((Below w.heap.size w W' ∧ Row W' w.heap.size 26 [.slice al t.l.length cl, .slice ar t.r.length cr, .slice arl t.rl.length crl, .slice arr t.rr.length crr, .slice at_ t.s.length ct] ∧ Row W' (w.heap.size + 1) 68 [.int .i64 z.x.a, .int .i64 z.x.b, .int .i64 z.y.a, .int .i64 z.y.b, .int .i64 z.z.a, .int .i64 z.z.b]) ∧ TnS W' W'.heap.size ⟨al, cl, ar, cr, arl, crl, arr, crr, at_, ct⟩ t ∧ SlS W' W'.heap.size (.slice A1 s.length c1) s) ∧ Row W' g14 45 [.slice y.ai M.i.length y.ci, .slice y.am M.m.length y.cm, .slice y.ao M.o.length y.co, .slice y.al M.l.length y.cl, .slice y.ar M.r.length y.cr] ∧ MxS W' W'.heap.size y M) ∧ SlI W' W'.heap.size (.slice (some ⟨gz, 0, none⟩) s.length s.length) zs) ∧ SlI W' W'.heap.size v17 ones) ∧ SlG 36 Og.cells W' W'.heap.size v18 OL) ∧ SlG 36 Og.cells W' W'.heap.size v20 OO) ∧ Row W' g23 45 [.slice y.ai M.i.length y.ci, .slice y.am s.length y.cm, .slice (some ⟨g3, 0, none⟩) s.length cap3, .slice y.al M.l.length y.cl, .slice y.ar M.r.length y.cr] ∧ SlS W' W'.heap.size (.slice (some ⟨g3, 0, none⟩) s.length cap3) (M.o.set k z))) => st6 h.1.1.1.1.1.1.1.2.2)
  have HC2 := Lib.hid (fun W' (h : ((((((((Below w.heap.size w W' ∧ Row W' w.heap.size 26 [.slice al t.l.length cl, .slice ar t.r.length cr, .slice arl t.rl.length crl, .slice arr t.rr.length crr, .slice at_ t.s.length ct] ∧ Row W' (w.heap.size + 1) 68 [.int .i64 z.x.a, .int .i64 z.x.b, .int .i64 z.y.a, .int .i64 z.y.b, .int .i64 z.z.a, .int .i64 z.z.b]) ∧ TnS W' W'.heap.size ⟨al, cl, ar, cr, arl, crl, arr, crr, at_, ct⟩ t ∧ SlS W' W'.heap.size (.slice A1 s.length c1) s) ∧ Row W' g14 45 [.slice y.ai M.i.length y.ci, .slice y.am M.m.length y.cm, .slice y.ao M.o.length y.co, .slice y.al M.l.length y.cl, .slice y.ar M.r.length y.cr] ∧ MxS W' W'.heap.size y M) ∧ SlI W' W'.heap.size (.slice (some ⟨gz, 0, none⟩) s.length s.length) zs) ∧ SlI W' W'.heap.size v17 ones) ∧ SlG 36 Og.cells W' W'.heap.size v18 OL) ∧ SlG 36 Og.cells W' W'.heap.size v20 OO) ∧ Row W' g23 45 [.slice y.ai M.i.length y.ci, .slice y.am s.length y.cm, .slice (some ⟨g3, 0, none⟩) s.length cap3, .slice y.al M.l.length y.cl, .slice y.ar M.r.length y.cr] ∧ SlS W' W'.heap.size (.slice (some ⟨g3, 0, none⟩) s.length cap3) (M.o.set k z))) => st5c (show Row W' g14 45 [.slice y.ai M.i.length y.ci, .slice (some ⟨bm, om, none⟩) s.length y.cm, .slice (some ⟨bo, oo, none⟩) s.length y.co, .slice y.al M.l.length y.cl, .slice y.ar M.r.length y.cr] from by rw [← e5]; exact h.1.1.1.1.1.2.1))
  have HC3 := Lib.hid (fun W' (h : ((((((((Below w.heap.size w W' ∧ Row W' w.heap.size 26 [.slice al t.l.length cl, .slice ar t.r.length cr, .slice arl t.rl.length crl, .slice arr t.rr.length crr, .slice at_ t.s.length ct] ∧ Row W' (w.heap.size + 1) 68 [.int .i64 z.x.a, .int .i64 z.x.b, .int .i64 z.y.a, .int .i64 z.y.b, .int .i64 z.z.a, .int .i64 z.z.b]) ∧ TnS W' W'.heap.size ⟨al, cl, ar, cr, arl, crl, arr, crr, at_, ct⟩ t ∧ SlS W' W'.heap.size (.slice A1 s.length c1) s) ∧ Row W' g14 45 [.slice y.ai M.i.length y.ci, .slice y.am M.m.length y.cm, .slice y.ao M.o.length y.co, .slice y.al M.l.length y.cl, .slice y.ar M.r.length y.cr] ∧ MxS W' W'.heap.size y M) ∧ SlI W' W'.heap.size (.slice (some ⟨gz, 0, none⟩) s.length s.length) zs) ∧ SlI W' W'.heap.size v17 ones) ∧ SlG 36 Og.cells W' W'.heap.size v18 OL) ∧ SlG 36 Og.cells W' W'.heap.size v20 OO) ∧ Row W' g23 45 [.slice y.ai M.i.length y.ci, .slice y.am s.length y.cm, .slice (some ⟨g3, 0, none⟩) s.length cap3, .slice y.al M.l.length y.cl, .slice y.ar M.r.length y.cr] ∧ SlS W' W'.heap.size (.slice (some ⟨g3, 0, none⟩) s.length cap3) (M.o.set k z))) => st5c h.2.1)
  have HC4 := Lib.hid (fun W' (h : ((((((((Below w.heap.size w W' ∧ Row W' w.heap.size 26 [.slice al t.l.length cl, .slice ar t.r.length cr, .slice arl t.rl.length crl, .slice arr t.rr.length crr, .slice at_ t.s.length ct] ∧ Row W' (w.heap.size + 1) 68 [.int .i64 z.x.a, .int .i64 z.x.b, .int .i64 z.y.a, .int .i64 z.y.b, .int .i64 z.z.a, .int .i64 z.z.b]) ∧ TnS W' W'.heap.size ⟨al, cl, ar, cr, arl, crl, arr, crr, at_, ct⟩ t ∧ SlS W' W'.heap.size (.slice A1 s.length c1) s) ∧ Row W' g14 45 [.slice y.ai M.i.length y.ci, .slice y.am M.m.length y.cm, .slice y.ao M.o.length y.co, .slice y.al M.l.length y.cl, .slice y.ar M.r.length y.cr] ∧ MxS W' W'.heap.size y M) ∧ SlI W' W'.heap.size (.slice (some ⟨gz, 0, none⟩) s.length s.length) zs) ∧ SlI W' W'.heap.size v17 ones) ∧ SlG 36 Og.cells W' W'.heap.size v18 OL) ∧ SlG 36 Og.cells W' W'.heap.size v20 OO) ∧ Row W' g23 45 [.slice y.ai M.i.length y.ci, .slice y.am s.length y.cm, .slice (some ⟨g3, 0, none⟩) s.length cap3, .slice y.al M.l.length y.cl, .slice y.ar M.r.length y.cr] ∧ SlS W' W'.heap.size (.slice (some ⟨g3, 0, none⟩) s.length cap3) (M.o.set k z))) => se_cells (k := k) h.1.1.1.1.1.2.2.o hao (by omega))
  have HC5 := Lib.hid (fun W' (h : ((((((((Below w.heap.size w W' ∧ Row W' w.heap.size 26 [.slice al t.l.length cl, .slice ar t.r.length cr, .slice arl t.rl.length crl, .slice arr t.rr.length crr, .slice at_ t.s.length ct] ∧ Row W' (w.heap.size + 1) 68 [.int .i64 z.x.a, .int .i64 z.x.b, .int .i64 z.y.a, .int .i64 z.y.b, .int .i64 z.z.a, .int .i64 z.z.b]) ∧ TnS W' W'.heap.size ⟨al, cl, ar, cr, arl, crl, arr, crr, at_, ct⟩ t ∧ SlS W' W'.heap.size (.slice A1 s.length c1) s) ∧ Row W' g14 45 [.slice y.ai M.i.length y.ci, .slice y.am M.m.length y.cm, .slice y.ao M.o.length y.co, .slice y.al M.l.length y.cl, .slice y.ar M.r.length y.cr] ∧ MxS W' W'.heap.size y M) ∧ SlI W' W'.heap.size (.slice (some ⟨gz, 0, none⟩) s.length s.length) zs) ∧ SlI W' W'.heap.size v17 ones) ∧ SlG 36 Og.cells W' W'.heap.size v18 OL) ∧ SlG 36 Og.cells W' W'.heap.size v20 OO) ∧ Row W' g23 45 [.slice y.ai M.i.length y.ci, .slice y.am s.length y.cm, .slice (some ⟨g3, 0, none⟩) s.length cap3, .slice y.al M.l.length y.cl, .slice y.ar M.r.length y.cr] ∧ SlS W' W'.heap.size (.slice (some ⟨g3, 0, none⟩) s.length cap3) (M.o.set k z))) => se_cells (k := k) h.1.1.1.1.1.2.2.m ham (by omega))
  have HAO := Lib.hid (And.intro hao ham)
  clear hao ham e5
  rw [hP] at HC4
  rw [hPm] at HC5
  have hN6 : z ≠ P → checkB key { M with o := M.o.set k z } ones OO = false := fun hn => by
    have := nt_out (key := key) (s := s) (t := t) (k := k) (other := z) (bits := ones) HF.out.1 HF.out.2.2.1 HF.out.2.2.2.1 HOLN.out HOB.out HO1.out hkn (by rw [HM.out.2, hP]; exact hn)
    rw [HM.out.2, HOO.out.2] at this
    exact this
  have HN6 := Lib.hid hN6
  clear hN6
  go_cut [139] from 126 to 139 (fun v W' => v = .bool false ∧ ((((((((Below w.heap.size w W' ∧ Row W' w.heap.size 26 [.slice al t.l.length cl, .slice ar t.r.length cr, .slice arl t.rl.length crl, .slice arr t.rr.length crr, .slice at_ t.s.length ct] ∧ Row W' (w.heap.size + 1) 68 [.int .i64 z.x.a, .int .i64 z.x.b, .int .i64 z.y.a, .int .i64 z.y.b, .int .i64 z.z.a, .int .i64 z.z.b]) ∧ TnS W' W'.heap.size ⟨al, cl, ar, cr, arl, crl, arr, crr, at_, ct⟩ t ∧ SlS W' W'.heap.size (.slice A1 s.length c1) s) ∧ Row W' g14 45 [.slice y.ai M.i.length y.ci, .slice y.am M.m.length y.cm, .slice y.ao M.o.length y.co, .slice y.al M.l.length y.cl, .slice y.ar M.r.length y.cr] ∧ MxS W' W'.heap.size y M) ∧ SlI W' W'.heap.size (.slice (some ⟨gz, 0, none⟩) s.length s.length) zs) ∧ SlI W' W'.heap.size v17 ones) ∧ SlG 36 Og.cells W' W'.heap.size v18 OL) ∧ SlG 36 Og.cells W' W'.heap.size v20 OO) ∧ Row W' g23 45 [.slice y.ai M.i.length y.ci, .slice y.am s.length y.cm, .slice (some ⟨g3, 0, none⟩) s.length cap3, .slice y.al M.l.length y.cl, .slice y.ar M.r.length y.cr] ∧ SlS W' W'.heap.size (.slice (some ⟨g3, 0, none⟩) s.length cap3) (M.o.set k z)))
  case first =>
    have hn1 : (k : Int) < s.length := by omega
    have hn2 : (0 : Int) ≤ k := by omega
    cases f8 : eqSe z P with
    | true =>
      have bq : ∀ w, (Op.equalIn 10000 68 z.val P.val).run Tryd.prog w = .ok true w := fun w => by have := runS z P w; rw [f8] at this; exact this
      unfold Se.val at bq
      refine wp_region_tree 13 (.take 0 (.take 1 (.take 2 (.take 3 (.take 4 (.take 5 (.take 6 (.take 7 (.take 8 (.take 9 (.take 10 (.take 11 (.take 12 .done)))))))))))))
        (fun W' => ((((((((Below w.heap.size w W' ∧ Row W' w.heap.size 26 [.slice al t.l.length cl, .slice ar t.r.length cr, .slice arl t.rl.length crl, .slice arr t.rr.length crr, .slice at_ t.s.length ct] ∧ Row W' (w.heap.size + 1) 68 [.int .i64 z.x.a, .int .i64 z.x.b, .int .i64 z.y.a, .int .i64 z.y.b, .int .i64 z.z.a, .int .i64 z.z.b]) ∧ TnS W' W'.heap.size ⟨al, cl, ar, cr, arl, crl, arr, crr, at_, ct⟩ t ∧ SlS W' W'.heap.size (.slice A1 s.length c1) s) ∧ Row W' g14 45 [.slice y.ai M.i.length y.ci, .slice y.am M.m.length y.cm, .slice y.ao M.o.length y.co, .slice y.al M.l.length y.cl, .slice y.ar M.r.length y.cr] ∧ MxS W' W'.heap.size y M) ∧ SlI W' W'.heap.size (.slice (some ⟨gz, 0, none⟩) s.length s.length) zs) ∧ SlI W' W'.heap.size v17 ones) ∧ SlG 36 Og.cells W' W'.heap.size v18 OL) ∧ SlG 36 Og.cells W' W'.heap.size v20 OO) ∧ Row W' g23 45 [.slice y.ai M.i.length y.ci, .slice y.am s.length y.cm, .slice (some ⟨g3, 0, none⟩) s.length cap3, .slice y.al M.l.length y.cl, .slice y.ar M.r.length y.cr] ∧ SlS W' W'.heap.size (.slice (some ⟨g3, 0, none⟩) s.length cap3) (M.o.set k z))) (by kernel_rfl) (by kernel_rfl) (fun _ _ d _ _ h => by cases d <;> exact h) (k6 (Below.refl _ _).drew h6) ?_
      replace h6 := k6 (Below.refl _ _).drew h6
      generalize w15.drew = V1 at *
      refine wpTree_take (v := ?_) rfl (by kernel_rfl) (fun w hSw => ?_) ?_
      rotate_left 1
      · obtain ⟨x0, x1, x2, x3, x4, x5⟩ := HC1.out _ hSw
        go_simp
        with_reducible rfl
      simp only [Act.put, List.setIfInBounds_toArray, List.set_cons_zero, List.set_cons_succ]
      refine wpTree_take (v := ?_) rfl (by kernel_rfl) (fun w hSw => ?_) ?_
      rotate_left 1
      · go_simp
        with_reducible rfl
      simp only [Act.put, List.setIfInBounds_toArray, List.set_cons_zero, List.set_cons_succ]
      refine wpTree_take (v := ?_) rfl (by kernel_rfl) (fun w hSw => ?_) ?_
      rotate_left 1
      · obtain ⟨m0, m1, m2, m3, m4⟩ := HC2.out _ hSw
        go_simp
        with_reducible rfl
      simp only [Act.put, List.setIfInBounds_toArray, List.set_cons_zero, List.set_cons_succ]
      refine wpTree_take (v := ?_) rfl (by kernel_rfl) (fun w hSw => ?_) ?_
      rotate_left 1
      · go_simp
        with_reducible rfl
      simp only [Act.put, List.setIfInBounds_toArray, List.set_cons_zero, List.set_cons_succ]
      refine wpTree_take (v := ?_) rfl (by kernel_rfl) (fun w hSw => ?_) ?_
      rotate_left 1
      · go_simp
        with_reducible rfl
      simp only [Act.put, List.setIfInBounds_toArray, List.set_cons_zero, List.set_cons_succ]
      refine wpTree_take (v := ?_) rfl (by kernel_rfl) (fun w hSw => ?_) ?_
      rotate_left 1
      · obtain ⟨p0, p1, p2, p3, p4, p5⟩ := HC4.out _ hSw
        go_simp
        with_reducible rfl
      simp only [Act.put, List.setIfInBounds_toArray, List.set_cons_zero, List.set_cons_succ]
      refine wpTree_take (v := ?_) rfl (by kernel_rfl) (fun w hSw => ?_) ?_
      rotate_left 1
      · go_simp
        with_reducible rfl
      simp only [Act.put, List.setIfInBounds_toArray, List.set_cons_zero, List.set_cons_succ]
      refine wpTree_take (v := ?_) rfl (by kernel_rfl) (fun w hSw => ?_) ?_
      rotate_left 1
      · go_simp
        with_reducible rfl
      simp only [Act.put, List.setIfInBounds_toArray, List.set_cons_zero, List.set_cons_succ]
      iterate 5
        refine wpTree_skip rfl (by kernel_rfl) ?_
        simp only [Act.put, List.setIfInBounds_toArray, List.set_cons_zero, List.set_cons_succ]
      refine wpTree_done ?_
      simp only [List.drop_succ_cons, List.drop_zero]
      go_wp2_with fail
      go_meet
      exact ⟨rfl, h6⟩
    | false =>
      have bq : ∀ w, (Op.equalIn 10000 68 z.val P.val).run Tryd.prog w = .ok false w := fun w => by have := runS z P w; rw [f8] at this; exact this
      unfold Se.val at bq
      have CKh := Lib.hid (CK6.out (HN6.out (fun e => by rw [e, eqSe_self] at f8; cases f8)))
      refine wp_region_tree 13 (.take 0 (.take 1 (.take 2 (.take 3 (.take 4 (.take 5 (.take 6 (.take 7 (.take 8 (.take 9 (.take 10 (.take 11 (.one 12 .done)))))))))))))
        (fun W' => ((((((((Below w.heap.size w W' ∧ Row W' w.heap.size 26 [.slice al t.l.length cl, .slice ar t.r.length cr, .slice arl t.rl.length crl, .slice arr t.rr.length crr, .slice at_ t.s.length ct] ∧ Row W' (w.heap.size + 1) 68 [.int .i64 z.x.a, .int .i64 z.x.b, .int .i64 z.y.a, .int .i64 z.y.b, .int .i64 z.z.a, .int .i64 z.z.b]) ∧ TnS W' W'.heap.size ⟨al, cl, ar, cr, arl, crl, arr, crr, at_, ct⟩ t ∧ SlS W' W'.heap.size (.slice A1 s.length c1) s) ∧ Row W' g14 45 [.slice y.ai M.i.length y.ci, .slice y.am M.m.length y.cm, .slice y.ao M.o.length y.co, .slice y.al M.l.length y.cl, .slice y.ar M.r.length y.cr] ∧ MxS W' W'.heap.size y M) ∧ SlI W' W'.heap.size (.slice (some ⟨gz, 0, none⟩) s.length s.length) zs) ∧ SlI W' W'.heap.size v17 ones) ∧ SlG 36 Og.cells W' W'.heap.size v18 OL) ∧ SlG 36 Og.cells W' W'.heap.size v20 OO) ∧ Row W' g23 45 [.slice y.ai M.i.length y.ci, .slice y.am s.length y.cm, .slice (some ⟨g3, 0, none⟩) s.length cap3, .slice y.al M.l.length y.cl, .slice y.ar M.r.length y.cr] ∧ SlS W' W'.heap.size (.slice (some ⟨g3, 0, none⟩) s.length cap3) (M.o.set k z))) (by kernel_rfl) (by kernel_rfl) (fun _ _ d _ _ h => by cases d <;> exact h) (k6 (Below.refl _ _).drew h6) ?_
      replace h6 := k6 (Below.refl _ _).drew h6
      generalize w15.drew = V1 at *
      refine wpTree_take (v := ?_) rfl (by kernel_rfl) (fun w hSw => ?_) ?_
      rotate_left 1
      · obtain ⟨x0, x1, x2, x3, x4, x5⟩ := HC1.out _ hSw
        go_simp
        with_reducible rfl
      simp only [Act.put, List.setIfInBounds_toArray, List.set_cons_zero, List.set_cons_succ]
      refine wpTree_take (v := ?_) rfl (by kernel_rfl) (fun w hSw => ?_) ?_
      rotate_left 1
      · go_simp
        with_reducible rfl
      simp only [Act.put, List.setIfInBounds_toArray, List.set_cons_zero, List.set_cons_succ]
      refine wpTree_take (v := ?_) rfl (by kernel_rfl) (fun w hSw => ?_) ?_
      rotate_left 1
      · obtain ⟨m0, m1, m2, m3, m4⟩ := HC2.out _ hSw
        go_simp
        with_reducible rfl
      simp only [Act.put, List.setIfInBounds_toArray, List.set_cons_zero, List.set_cons_succ]
      refine wpTree_take (v := ?_) rfl (by kernel_rfl) (fun w hSw => ?_) ?_
      rotate_left 1
      · go_simp
        with_reducible rfl
      simp only [Act.put, List.setIfInBounds_toArray, List.set_cons_zero, List.set_cons_succ]
      refine wpTree_take (v := ?_) rfl (by kernel_rfl) (fun w hSw => ?_) ?_
      rotate_left 1
      · go_simp
        with_reducible rfl
      simp only [Act.put, List.setIfInBounds_toArray, List.set_cons_zero, List.set_cons_succ]
      refine wpTree_take (v := ?_) rfl (by kernel_rfl) (fun w hSw => ?_) ?_
      rotate_left 1
      · obtain ⟨p0, p1, p2, p3, p4, p5⟩ := HC4.out _ hSw
        go_simp
        with_reducible rfl
      simp only [Act.put, List.setIfInBounds_toArray, List.set_cons_zero, List.set_cons_succ]
      refine wpTree_take (v := ?_) rfl (by kernel_rfl) (fun w hSw => ?_) ?_
      rotate_left 1
      · go_simp
        with_reducible rfl
      simp only [Act.put, List.setIfInBounds_toArray, List.set_cons_zero, List.set_cons_succ]
      refine wpTree_take (v := ?_) rfl (by kernel_rfl) (fun w hSw => ?_) ?_
      rotate_left 1
      · go_simp
        with_reducible rfl
      simp only [Act.put, List.setIfInBounds_toArray, List.set_cons_zero, List.set_cons_succ]
      refine wpTree_take (v := ?_) rfl (by kernel_rfl) (fun w hSw => ?_) ?_
      rotate_left 1
      · go_simp
        with_reducible rfl
      simp only [Act.put, List.setIfInBounds_toArray, List.set_cons_zero, List.set_cons_succ]
      refine wpTree_take (v := ?_) rfl (by kernel_rfl) (fun w hSw => ?_) ?_
      rotate_left 1
      · obtain ⟨n0, n1, n2, n3, n4⟩ := HC3.out _ hSw
        go_simp
        with_reducible rfl
      simp only [Act.put, List.setIfInBounds_toArray, List.set_cons_zero, List.set_cons_succ]
      refine wpTree_take (v := ?_) rfl (by kernel_rfl) (fun w hSw => ?_) ?_
      rotate_left 1
      · go_simp
        with_reducible rfl
      simp only [Act.put, List.setIfInBounds_toArray, List.set_cons_zero, List.set_cons_succ]
      refine wpTree_take (v := ?_) rfl (by kernel_rfl) (fun w hSw => ?_) ?_
      rotate_left 1
      · go_simp
        with_reducible rfl
      simp only [Act.put, List.setIfInBounds_toArray, List.set_cons_zero, List.set_cons_succ]
      refine wpTree_one rfl (fun K hK => ⟨by kernel_rfl, ?_⟩)
      go_simp
      go_at_call 22
      refine (CKh.out _ h6).mono ?_
      rintro e V2 ⟨rfl, hb⟩
      replace h6 := k6 hb h6
      refine hK _ _ h6 ?_
      clear hK K hb
      try simp only [Act.put, List.setIfInBounds_toArray, List.set_cons_zero, List.set_cons_succ]
      refine wpTree_done ?_
      simp only [List.drop_succ_cons, List.drop_zero]
      go_wp2_with fail
      go_meet
      exact ⟨rfl, h6⟩
  case rest =>
  clear h6
  obtain ⟨rfl, h6⟩ := hcut
  clear CK6 HN6 HC3 k6
  have h5 := h6.1
  clear h6
  obtain ⟨m0, m1, m2, m3, m4⟩ := st5c h5.1.1.1.1.2.1
  go_upto_region 20 with fail
  have rC := Row.new wc 45 [.slice y.ai M.i.length y.ci, .slice y.am s.length y.cm, .slice y.ao s.length y.co, .slice y.al M.l.length y.cl, .slice y.ar M.r.length y.cr]
  have hb0 := below_alloc' wc (.cells #[.slice y.ai M.i.length y.ci, .slice y.am s.length y.cm, .slice y.ao s.length y.co, .slice y.al M.l.length y.cl, .slice y.ar M.r.length y.cr] 45)
  obtain ⟨W11, hV⟩ : ∃ V, wc.alloc (.cells #[.slice y.ai M.i.length y.ci, .slice y.am s.length y.cm, .slice y.ao s.length y.co, .slice y.al M.l.length y.cl, .slice y.ar M.r.length y.cr] 45) = V := ⟨_, rfl⟩
  have hz11 : wc.heap.size < W11.heap.size := by rw [← hV, World.size_alloc]; omega
  replace rC : Row W11 wc.heap.size 45 [.slice y.ai M.i.length y.ci, .slice y.am s.length y.cm, .slice y.ao s.length y.co, .slice y.al M.l.length y.cl, .slice y.ar M.r.length y.cr] := hV ▸ rC
  rw [hV] at hb0 ⊢
  clear hV m0 m1 m2 m3 m4
  have r14 := h5.1.1.1.1.2.1.below hb0 h5.1.1.1.1.2.1.lt
  rw [hmo, hmm] at r14
  have so := h5.1.1.1.1.2.2.m.below (hb0.alloc hb0.size (.cells #[] 68))
  have r14' := r14.alloc (.cells #[] 68)
  have rC' := rC.alloc (.cells #[] 68)
  have own0 := own_empty6 W11 68
  obtain ⟨V12, hV⟩ : ∃ V, W11.alloc (.cells #[] 68) = V := ⟨_, rfl⟩
  have hz12 : V12.heap.size = W11.heap.size + 1 := by rw [← hV, World.size_alloc]
  have hb12 := hb0.alloc hb0.size (.cells #[] 68)
  rw [hV] at so r14' rC' own0 hb12
  obtain ⟨m0, m1, m2, m3, m4⟩ := st5c r14'
  rw [hmm] at so
  obtain ⟨ad, had⟩ := se_some so (by omega)
  rw [had] at so m1
  obtain ⟨j0, hj, hy0, hy1, hy2⟩ := info_parts infoS6
  go_upto_region 21 with ((at_builtin; refine wpList_append_lies _ rfl _ _ 42 rfl W11.heap.size 68 j0 (.agg #[.int .i64 0, .int .i64 0, .int .i64 0, .int .i64 0, .int .i64 0, .int .i64 0]) 6 48 Tryd.underlying42 hj hy0 hy1 hy2 rfl (by decide) _ _ _ rfl own0 ad s.length y.cm (M.m.flatMap encS) rfl (by rw [flat_len6, hmm]) (news_se hmm.symm so (by omega)) (se_ones _) (by omega) (by unfold maxLen; omega) (by omega) (by omega) _ rfl ?_; intro g4 cap4 w13 hown hgr hat hlt3; have hb13 := hb12.grown hgr (by omega) (fun r e => by have e1 : W11.heap.size = r := Option.some.inj e; omega); have rc13 := rC'.below ((Below.refl (wc.heap.size + 1) V12).grown hgr (by omega) (fun r e => by have e1 : W11.heap.size = r := Option.some.inj e; omega)) (Nat.lt_succ_self _); obtain ⟨n0, n1, n2, n3, n4⟩ := st5c rc13; have nf := Row.frozen rc13 1))
  obtain ⟨g4', cap', ex, hv, hg4, rX⟩ := own_rowx hown (by omega)
  cases hv
  rw [List.nil_append] at rX
  have hne : g4 ≠ wc.heap.size := by omega
  have rX14 := rX.other (p := ⟨wc.heap.size, 1, none⟩) hne (.slice (some ⟨g4, 0, none⟩) s.length cap4)
  have rC14 := rc13.store 1 (.slice (some ⟨g4, 0, none⟩) s.length cap4)
  have hb14 := hb13.setCell (p := ⟨wc.heap.size, 1, none⟩) (Nat.le_refl _) (.slice (some ⟨g4, 0, none⟩) s.length cap4)
  obtain ⟨w14, hW14⟩ : ∃ V, w13.setCell ⟨wc.heap.size, 1, none⟩ (.slice (some ⟨g4, 0, none⟩) s.length cap4) = V := ⟨_, rfl⟩
  rw [hW14] at rX14 rC14 hb14 ⊢
  clear hW14 hown hgr hat hb13 rc13 n0 n1 n2 n3 n4 nf m0 m1 m2 m3 m4 so own0 r14' rC' hb12 rX
  replace rC14 : Row w14 wc.heap.size 45 [.slice y.ai M.i.length y.ci, .slice (some ⟨g4, 0, none⟩) s.length cap4, .slice y.ao s.length y.co, .slice y.al M.l.length y.cl, .slice y.ar M.r.length y.cr] := rC14
  obtain ⟨n0, n1, n2, n3, n4⟩ := st5c rC14
  obtain ⟨x0, x1, x2, x3, x4, x5⟩ := st6 (h5.1.1.1.1.1.1.2.2.below hb14 h5.1.1.1.1.1.1.2.2.lt)
  obtain ⟨c0, c1', c2, c3, c4, c5⟩ := cells6x rX14 (k := k) (by omega) (by omega)
  have ff := fun i => Row.frozen rX14 i
  go_upto_region 22 with fail
  obtain ⟨w15, hW15⟩ : ∃ V, put6 w14 g4 (k * 6) z = V := ⟨_, rfl⟩
  have rX15 := put6_atx rX14 (k := k) (by omega) z
  have rC15 : Row (put6 w14 g4 (k * 6) z) wc.heap.size _ _ := put6_other rC14 hne.symm
  have hb15 : Below wc.heap.size wc (put6 w14 g4 (k * 6) z) := put6_below hb14 (by omega)
  rw [hW15] at rX15 rC15 hb15
  replace hW15 : (((((w14.setCell ⟨g4, k * 6, none⟩ (.int .i64 z.x.a)).setCell ⟨g4, k * 6 + 1, none⟩ (.int .i64 z.x.b)).setCell ⟨g4, k * 6 + 2, none⟩ (.int .i64 z.y.a)).setCell ⟨g4, k * 6 + 3, none⟩ (.int .i64 z.y.b)).setCell ⟨g4, k * 6 + 4, none⟩ (.int .i64 z.z.a)).setCell ⟨g4, k * 6 + 5, none⟩ (.int .i64 z.z.b) = w15 := hW15
  rw [hW15]
  have h6o : SlS w15 w15.heap.size (.slice (some ⟨g4, 0, none⟩) s.length cap4) (M.m.set k z) := by
    have := rowx_sl (c := cap4) (B0 := w15.heap.size) rX15 (by rw [List.length_set]; omega) rX15.lt
    rw [List.length_set, hmm] at this
    exact this
  replace h5 := k5 hb15 h5
  clear hW15 n0 n1 n2 n3 n4 x0 x1 x2 x3 x4 x5 c0 c1' c2 c3 c4 c5 ff rX14 rC14 hb14 rX15 hb15 rC hb0 hz11 hz12 hg4 hlt3 r14 hne hV had j0 hj hy0 hy1 hy2
  generalize wc.heap.size = g24 at rC15 ⊢
  have k7 : Kp fun W' => ((((((((Below w.heap.size w W' ∧ Row W' w.heap.size 26 [.slice al t.l.length cl, .slice ar t.r.length cr, .slice arl t.rl.length crl, .slice arr t.rr.length crr, .slice at_ t.s.length ct] ∧ Row W' (w.heap.size + 1) 68 [.int .i64 z.x.a, .int .i64 z.x.b, .int .i64 z.y.a, .int .i64 z.y.b, .int .i64 z.z.a, .int .i64 z.z.b]) ∧ TnS W' W'.heap.size ⟨al, cl, ar, cr, arl, crl, arr, crr, at_, ct⟩ t ∧ SlS W' W'.heap.size (.slice A1 s.length c1) s) ∧ Row W' g14 45 [.slice y.ai M.i.length y.ci, .slice y.am M.m.length y.cm, .slice y.ao M.o.length y.co, .slice y.al M.l.length y.cl, .slice y.ar M.r.length y.cr] ∧ MxS W' W'.heap.size y M) ∧ SlI W' W'.heap.size (.slice (some ⟨gz, 0, none⟩) s.length s.length) zs) ∧ SlI W' W'.heap.size v17 ones) ∧ SlG 36 Og.cells W' W'.heap.size v18 OL) ∧ SlG 36 Og.cells W' W'.heap.size v20 OO) ∧ Row W' g24 45 [.slice y.ai M.i.length y.ci, .slice (some ⟨g4, 0, none⟩) s.length cap4, .slice y.ao s.length y.co, .slice y.al M.l.length y.cl, .slice y.ar M.r.length y.cr] ∧ SlS W' W'.heap.size (.slice (some ⟨g4, 0, none⟩) s.length cap4) (M.m.set k z)) := by intro W W' hb ⟨a, b, c⟩; exact ⟨k5 hb a, Kp.row hb b, Kp.sl hb c⟩
  have h7 : (fun W' => ((((((((Below w.heap.size w W' ∧ Row W' w.heap.size 26 [.slice al t.l.length cl, .slice ar t.r.length cr, .slice arl t.rl.length crl, .slice arr t.rr.length crr, .slice at_ t.s.length ct] ∧ Row W' (w.heap.size + 1) 68 [.int .i64 z.x.a, .int .i64 z.x.b, .int .i64 z.y.a, .int .i64 z.y.b, .int .i64 z.z.a, .int .i64 z.z.b]) ∧ TnS W' W'.heap.size ⟨al, cl, ar, cr, arl, crl, arr, crr, at_, ct⟩ t ∧ SlS W' W'.heap.size (.slice A1 s.length c1) s) ∧ Row W' g14 45 [.slice y.ai M.i.length y.ci, .slice y.am M.m.length y.cm, .slice y.ao M.o.length y.co, .slice y.al M.l.length y.cl, .slice y.ar M.r.length y.cr] ∧ MxS W' W'.heap.size y M) ∧ SlI W' W'.heap.size (.slice (some ⟨gz, 0, none⟩) s.length s.length) zs) ∧ SlI W' W'.heap.size v17 ones) ∧ SlG 36 Og.cells W' W'.heap.size v18 OL) ∧ SlG 36 Og.cells W' W'.heap.size v20 OO) ∧ Row W' g24 45 [.slice y.ai M.i.length y.ci, .slice (some ⟨g4, 0, none⟩) s.length cap4, .slice y.ao s.length y.co, .slice y.al M.l.length y.cl, .slice y.ar M.r.length y.cr] ∧ SlS W' W'.heap.size (.slice (some ⟨g4, 0, none⟩) s.length cap4) (M.m.set k z))) w15 := ⟨h5, rC15, h6o⟩
  clear rC15 h6o h5
  have MX7 : ∀ W' : World, ((((((((Below w.heap.size w W' ∧ Row W' w.heap.size 26 [.slice al t.l.length cl, .slice ar t.r.length cr, .slice arl t.rl.length crl, .slice arr t.rr.length crr, .slice at_ t.s.length ct] ∧ Row W' (w.heap.size + 1) 68 [.int .i64 z.x.a, .int .i64 z.x.b, .int .i64 z.y.a, .int .i64 z.y.b, .int .i64 z.z.a, .int .i64 z.z.b]) ∧ TnS W' W'.heap.size ⟨al, cl, ar, cr, arl, crl, arr, crr, at_, ct⟩ t ∧ SlS W' W'.heap.size (.slice A1 s.length c1) s) ∧ Row W' g14 45 [.slice y.ai M.i.length y.ci, .slice y.am M.m.length y.cm, .slice y.ao M.o.length y.co, .slice y.al M.l.length y.cl, .slice y.ar M.r.length y.cr] ∧ MxS W' W'.heap.size y M) ∧ SlI W' W'.heap.size (.slice (some ⟨gz, 0, none⟩) s.length s.length) zs) ∧ SlI W' W'.heap.size v17 ones) ∧ SlG 36 Og.cells W' W'.heap.size v18 OL) ∧ SlG 36 Og.cells W' W'.heap.size v20 OO) ∧ Row W' g24 45 [.slice y.ai M.i.length y.ci, .slice (some ⟨g4, 0, none⟩) s.length cap4, .slice y.ao s.length y.co, .slice y.al M.l.length y.cl, .slice y.ar M.r.length y.cr] ∧ SlS W' W'.heap.size (.slice (some ⟨g4, 0, none⟩) s.length cap4) (M.m.set k z)) → MxS W' W'.heap.size ⟨y.ai, y.ci, some ⟨g4, 0, none⟩, cap4, y.ao, y.co, y.al, y.cl, y.ar, y.cr⟩ { M with m := M.m.set k z } := fun W' h =>
    ⟨h.1.1.1.1.1.2.2.i, by have := h.2.2; rw [show s.length = (M.m.set k z).length by rw [List.length_set, hmm]] at this; exact this, h.1.1.1.1.1.2.2.o, h.1.1.1.1.1.2.2.l, h.1.1.1.1.1.2.2.r⟩
  have CKa : checkB key { M with m := M.m.set k z } zs OL = false → ∀ W' : World, ((((((((Below w.heap.size w W' ∧ Row W' w.heap.size 26 [.slice al t.l.length cl, .slice ar t.r.length cr, .slice arl t.rl.length crl, .slice arr t.rr.length crr, .slice at_ t.s.length ct] ∧ Row W' (w.heap.size + 1) 68 [.int .i64 z.x.a, .int .i64 z.x.b, .int .i64 z.y.a, .int .i64 z.y.b, .int .i64 z.z.a, .int .i64 z.z.b]) ∧ TnS W' W'.heap.size ⟨al, cl, ar, cr, arl, crl, arr, crr, at_, ct⟩ t ∧ SlS W' W'.heap.size (.slice A1 s.length c1) s) ∧ Row W' g14 45 [.slice y.ai M.i.length y.ci, .slice y.am M.m.length y.cm, .slice y.ao M.o.length y.co, .slice y.al M.l.length y.cl, .slice y.ar M.r.length y.cr] ∧ MxS W' W'.heap.size y M) ∧ SlI W' W'.heap.size (.slice (some ⟨gz, 0, none⟩) s.length s.length) zs) ∧ SlI W' W'.heap.size v17 ones) ∧ SlG 36 Og.cells W' W'.heap.size v18 OL) ∧ SlG 36 Og.cells W' W'.heap.size v20 OO) ∧ Row W' g24 45 [.slice y.ai M.i.length y.ci, .slice (some ⟨g4, 0, none⟩) s.length cap4, .slice y.ao s.length y.co, .slice y.al M.l.length y.cl, .slice y.ar M.r.length y.cr] ∧ SlS W' W'.heap.size (.slice (some ⟨g4, 0, none⟩) s.length cap4) (M.m.set k z)) → Calls Tryd.prog 22 #[.int .i64 key, .agg #[.slice y.ai M.i.length y.ci, .slice (some ⟨g4, 0, none⟩) s.length cap4, .slice y.ao s.length y.co, .slice y.al M.l.length y.cl, .slice y.ar M.r.length y.cr], .slice (some ⟨gz, 0, none⟩) s.length s.length, v18] W' fun e w' => e = .returned (.bool false) ∧ Below W'.heap.size W' w' := by
    intro hc W' h
    have := check_any key ⟨y.ai, y.ci, some ⟨g4, 0, none⟩, cap4, y.ao, y.co, y.al, y.cl, y.ar, y.cr⟩ { M with m := M.m.set k z } zs OL (.slice (some ⟨gz, 0, none⟩) s.length s.length) v18 W' (HT.out.below h.1.1.1.1.1.1.1.1) (MX7 W' h) h.1.1.1.1.2 h.1.1.2 ⟨HMOK.out.l, HMOK.out.r⟩ HOLK.out
    rw [hc] at this
    unfold MxA.cells at this
    dsimp only at this
    rw [List.length_set, hmo, hmm] at this
    exact this
  have CKb : checkB key { M with m := M.m.set k z } ones OO = false → ∀ W' : World, ((((((((Below w.heap.size w W' ∧ Row W' w.heap.size 26 [.slice al t.l.length cl, .slice ar t.r.length cr, .slice arl t.rl.length crl, .slice arr t.rr.length crr, .slice at_ t.s.length ct] ∧ Row W' (w.heap.size + 1) 68 [.int .i64 z.x.a, .int .i64 z.x.b, .int .i64 z.y.a, .int .i64 z.y.b, .int .i64 z.z.a, .int .i64 z.z.b]) ∧ TnS W' W'.heap.size ⟨al, cl, ar, cr, arl, crl, arr, crr, at_, ct⟩ t ∧ SlS W' W'.heap.size (.slice A1 s.length c1) s) ∧ Row W' g14 45 [.slice y.ai M.i.length y.ci, .slice y.am M.m.length y.cm, .slice y.ao M.o.length y.co, .slice y.al M.l.length y.cl, .slice y.ar M.r.length y.cr] ∧ MxS W' W'.heap.size y M) ∧ SlI W' W'.heap.size (.slice (some ⟨gz, 0, none⟩) s.length s.length) zs) ∧ SlI W' W'.heap.size v17 ones) ∧ SlG 36 Og.cells W' W'.heap.size v18 OL) ∧ SlG 36 Og.cells W' W'.heap.size v20 OO) ∧ Row W' g24 45 [.slice y.ai M.i.length y.ci, .slice (some ⟨g4, 0, none⟩) s.length cap4, .slice y.ao s.length y.co, .slice y.al M.l.length y.cl, .slice y.ar M.r.length y.cr] ∧ SlS W' W'.heap.size (.slice (some ⟨g4, 0, none⟩) s.length cap4) (M.m.set k z)) → Calls Tryd.prog 22 #[.int .i64 key, .agg #[.slice y.ai M.i.length y.ci, .slice (some ⟨g4, 0, none⟩) s.length cap4, .slice y.ao s.length y.co, .slice y.al M.l.length y.cl, .slice y.ar M.r.length y.cr], v17, v20] W' fun e w' => e = .returned (.bool false) ∧ Below W'.heap.size W' w' := by
    intro hc W' h
    have := check_any key ⟨y.ai, y.ci, some ⟨g4, 0, none⟩, cap4, y.ao, y.co, y.al, y.cl, y.ar, y.cr⟩ { M with m := M.m.set k z } ones OO (v17) v20 W' (HT.out.below h.1.1.1.1.1.1.1.1) (MX7 W' h) h.1.1.1.2 h.1.2 ⟨HMOK.out.l, HMOK.out.r⟩ HOOK.out
    rw [hc] at this
    unfold MxA.cells at this
    dsimp only at this
    rw [List.length_set, hmo, hmm] at this
    exact this
  have hNa : z ≠ Pm → checkB key { M with m := M.m.set k z } zs OL = false := fun hn => by
    have := nt_midL (key := key) (s := s) (t := t) (k := k) (other := z) (bits := zs) HF.out.1 HF.out.2.2.1 HF.out.2.2.2.1 HBL.out HZB.out HZ0.out hkn (by rw [HM.out.2, hPm]; exact hn)
    rw [HM.out.2, HOL.out.2] at this
    exact this
  have hNb : z ≠ Pm → checkB key { M with m := M.m.set k z } ones OO = false := fun hn => by
    have := nt_midR (key := key) (s := s) (t := t) (k := k) (other := z) (bits := ones) HF.out.1 HF.out.2.2.1 HF.out.2.2.2.1 HOLN.out HOB.out HO1.out hkn HF.out.2.2.2.2 (by rw [HM.out.2, hPm]; exact hn)
    rw [HM.out.2, HOO.out.2] at this
    exact this
  have CKa := Lib.hid (fun hn => CKa (hNa hn))
  have CKb := Lib.hid (fun hn => CKb (hNb hn))
  clear MX7 hNa hNb HC1 HC2 HC4 HC5 HAO
  obtain ⟨bm, om, ham, _⟩ := sl_at h7.1.1.1.1.1.2.2.m (j := k) (by omega)
  have e5 : ([.slice y.ai M.i.length y.ci, .slice y.am M.m.length y.cm, .slice y.ao M.o.length y.co, .slice y.al M.l.length y.cl, .slice y.ar M.r.length y.cr] : List Value) = [.slice y.ai M.i.length y.ci, .slice (some ⟨bm, om, none⟩) s.length y.cm, .slice y.ao s.length y.co, .slice y.al M.l.length y.cl, .slice y.ar M.r.length y.cr] := by rw [hmm, hmo, ham]
  have HC1 := Lib.hid (fun W' (h : ((((((((Below w.heap.size w W' ∧ Row W' w.heap.size 26 [.slice al t.l.length cl, .slice ar t.r.length cr, .slice arl t.rl.length crl, .slice arr t.rr.length crr, .slice at_ t.s.length ct] ∧ Row W' (w.heap.size + 1) 68 [.int .i64 z.x.a, .int .i64 z.x.b, .int .i64 z.y.a, .int .i64 z.y.b, .int .i64 z.z.a, .int .i64 z.z.b]) ∧ TnS W' W'.heap.size ⟨al, cl, ar, cr, arl, crl, arr, crr, at_, ct⟩ t ∧ SlS W' W'.heap.size (.slice A1 s.length c1) s) ∧ Row W' g14 45 [.slice y.ai M.i.length y.ci, .slice y.am M.m.length y.cm, .slice y.ao M.o.length y.co, .slice y.al M.l.length y.cl, .slice y.ar M.r.length y.cr] ∧ MxS W' W'.heap.size y M) ∧ SlI W' W'.heap.size (.slice (some ⟨gz, 0, none⟩) s.length s.length) zs) ∧ SlI W' W'.heap.size v17 ones) ∧ SlG 36 Og.cells W' W'.heap.size v18 OL) ∧ SlG 36 Og.cells W' W'.heap.size v20 OO) ∧ Row W' g24 45 [.slice y.ai M.i.length y.ci, .slice (some ⟨g4, 0, none⟩) s.length cap4, .slice y.ao s.length y.co, .slice y.al M.l.length y.cl, .slice y.ar M.r.length y.cr] ∧ SlS W' W'.heap.size (.slice (some ⟨g4, 0, none⟩) s.length cap4) (M.m.set k z))) => st6 h.1.1.1.1.1.1.1.2.2)
  have HC2 := Lib.hid (fun W' (h : ((((((((Below w.heap.size w W' ∧ Row W' w.heap.size 26 [.slice al t.l.length cl, .slice ar t.r.length cr, .slice arl t.rl.length crl, .slice arr t.rr.length crr, .slice at_ t.s.length ct] ∧ Row W' (w.heap.size + 1) 68 [.int .i64 z.x.a, .int .i64 z.x.b, .int .i64 z.y.a, .int .i64 z.y.b, .int .i64 z.z.a, .int .i64 z.z.b]) ∧ TnS W' W'.heap.size ⟨al, cl, ar, cr, arl, crl, arr, crr, at_, ct⟩ t ∧ SlS W' W'.heap.size (.slice A1 s.length c1) s) ∧ Row W' g14 45 [.slice y.ai M.i.length y.ci, .slice y.am M.m.length y.cm, .slice y.ao M.o.length y.co, .slice y.al M.l.length y.cl, .slice y.ar M.r.length y.cr] ∧ MxS W' W'.heap.size y M) ∧ SlI W' W'.heap.size (.slice (some ⟨gz, 0, none⟩) s.length s.length) zs) ∧ SlI W' W'.heap.size v17 ones) ∧ SlG 36 Og.cells W' W'.heap.size v18 OL) ∧ SlG 36 Og.cells W' W'.heap.size v20 OO) ∧ Row W' g24 45 [.slice y.ai M.i.length y.ci, .slice (some ⟨g4, 0, none⟩) s.length cap4, .slice y.ao s.length y.co, .slice y.al M.l.length y.cl, .slice y.ar M.r.length y.cr] ∧ SlS W' W'.heap.size (.slice (some ⟨g4, 0, none⟩) s.length cap4) (M.m.set k z))) => st5c (show Row W' g14 45 [.slice y.ai M.i.length y.ci, .slice (some ⟨bm, om, none⟩) s.length y.cm, .slice y.ao s.length y.co, .slice y.al M.l.length y.cl, .slice y.ar M.r.length y.cr] from by rw [← e5]; exact h.1.1.1.1.1.2.1))
  have HC3 := Lib.hid (fun W' (h : ((((((((Below w.heap.size w W' ∧ Row W' w.heap.size 26 [.slice al t.l.length cl, .slice ar t.r.length cr, .slice arl t.rl.length crl, .slice arr t.rr.length crr, .slice at_ t.s.length ct] ∧ Row W' (w.heap.size + 1) 68 [.int .i64 z.x.a, .int .i64 z.x.b, .int .i64 z.y.a, .int .i64 z.y.b, .int .i64 z.z.a, .int .i64 z.z.b]) ∧ TnS W' W'.heap.size ⟨al, cl, ar, cr, arl, crl, arr, crr, at_, ct⟩ t ∧ SlS W' W'.heap.size (.slice A1 s.length c1) s) ∧ Row W' g14 45 [.slice y.ai M.i.length y.ci, .slice y.am M.m.length y.cm, .slice y.ao M.o.length y.co, .slice y.al M.l.length y.cl, .slice y.ar M.r.length y.cr] ∧ MxS W' W'.heap.size y M) ∧ SlI W' W'.heap.size (.slice (some ⟨gz, 0, none⟩) s.length s.length) zs) ∧ SlI W' W'.heap.size v17 ones) ∧ SlG 36 Og.cells W' W'.heap.size v18 OL) ∧ SlG 36 Og.cells W' W'.heap.size v20 OO) ∧ Row W' g24 45 [.slice y.ai M.i.length y.ci, .slice (some ⟨g4, 0, none⟩) s.length cap4, .slice y.ao s.length y.co, .slice y.al M.l.length y.cl, .slice y.ar M.r.length y.cr] ∧ SlS W' W'.heap.size (.slice (some ⟨g4, 0, none⟩) s.length cap4) (M.m.set k z))) => st5c h.2.1)
  have HC5 := Lib.hid (fun W' (h : ((((((((Below w.heap.size w W' ∧ Row W' w.heap.size 26 [.slice al t.l.length cl, .slice ar t.r.length cr, .slice arl t.rl.length crl, .slice arr t.rr.length crr, .slice at_ t.s.length ct] ∧ Row W' (w.heap.size + 1) 68 [.int .i64 z.x.a, .int .i64 z.x.b, .int .i64 z.y.a, .int .i64 z.y.b, .int .i64 z.z.a, .int .i64 z.z.b]) ∧ TnS W' W'.heap.size ⟨al, cl, ar, cr, arl, crl, arr, crr, at_, ct⟩ t ∧ SlS W' W'.heap.size (.slice A1 s.length c1) s) ∧ Row W' g14 45 [.slice y.ai M.i.length y.ci, .slice y.am M.m.length y.cm, .slice y.ao M.o.length y.co, .slice y.al M.l.length y.cl, .slice y.ar M.r.length y.cr] ∧ MxS W' W'.heap.size y M) ∧ SlI W' W'.heap.size (.slice (some ⟨gz, 0, none⟩) s.length s.length) zs) ∧ SlI W' W'.heap.size v17 ones) ∧ SlG 36 Og.cells W' W'.heap.size v18 OL) ∧ SlG 36 Og.cells W' W'.heap.size v20 OO) ∧ Row W' g24 45 [.slice y.ai M.i.length y.ci, .slice (some ⟨g4, 0, none⟩) s.length cap4, .slice y.ao s.length y.co, .slice y.al M.l.length y.cl, .slice y.ar M.r.length y.cr] ∧ SlS W' W'.heap.size (.slice (some ⟨g4, 0, none⟩) s.length cap4) (M.m.set k z))) => se_cells (k := k) h.1.1.1.1.1.2.2.m ham (by omega))
  rw [hPm] at HC5
  clear ham e5
  go_cut [171] from 151 to 171 (fun v W' => v = .bool false ∧ ((((((((Below w.heap.size w W' ∧ Row W' w.heap.size 26 [.slice al t.l.length cl, .slice ar t.r.length cr, .slice arl t.rl.length crl, .slice arr t.rr.length crr, .slice at_ t.s.length ct] ∧ Row W' (w.heap.size + 1) 68 [.int .i64 z.x.a, .int .i64 z.x.b, .int .i64 z.y.a, .int .i64 z.y.b, .int .i64 z.z.a, .int .i64 z.z.b]) ∧ TnS W' W'.heap.size ⟨al, cl, ar, cr, arl, crl, arr, crr, at_, ct⟩ t ∧ SlS W' W'.heap.size (.slice A1 s.length c1) s) ∧ Row W' g14 45 [.slice y.ai M.i.length y.ci, .slice y.am M.m.length y.cm, .slice y.ao M.o.length y.co, .slice y.al M.l.length y.cl, .slice y.ar M.r.length y.cr] ∧ MxS W' W'.heap.size y M) ∧ SlI W' W'.heap.size (.slice (some ⟨gz, 0, none⟩) s.length s.length) zs) ∧ SlI W' W'.heap.size v17 ones) ∧ SlG 36 Og.cells W' W'.heap.size v18 OL) ∧ SlG 36 Og.cells W' W'.heap.size v20 OO) ∧ Row W' g24 45 [.slice y.ai M.i.length y.ci, .slice (some ⟨g4, 0, none⟩) s.length cap4, .slice y.ao s.length y.co, .slice y.al M.l.length y.cl, .slice y.ar M.r.length y.cr] ∧ SlS W' W'.heap.size (.slice (some ⟨g4, 0, none⟩) s.length cap4) (M.m.set k z)))
  case first =>
    have hn1 : (k : Int) < s.length := by omega
    have hn2 : (0 : Int) ≤ k := by omega
    cases f8 : eqSe z Pm with
    | true =>
      have bq : ∀ w, (Op.equalIn 10000 68 z.val Pm.val).run Tryd.prog w = .ok true w := fun w => by have := runS z Pm w; rw [f8] at this; exact this
      unfold Se.val at bq
      refine wp_region_tree 20 (.take 0 (.take 1 (.take 2 (.take 3 (.take 4 (.take 5 (.take 6 (.take 7 (.take 8 (.take 9 (.take 10 (.take 11 (.take 12 (.take 13 (.take 14 (.take 15 (.take 16 (.take 17 (.take 18 (.take 19 .done))))))))))))))))))))
        (fun W' => ((((((((Below w.heap.size w W' ∧ Row W' w.heap.size 26 [.slice al t.l.length cl, .slice ar t.r.length cr, .slice arl t.rl.length crl, .slice arr t.rr.length crr, .slice at_ t.s.length ct] ∧ Row W' (w.heap.size + 1) 68 [.int .i64 z.x.a, .int .i64 z.x.b, .int .i64 z.y.a, .int .i64 z.y.b, .int .i64 z.z.a, .int .i64 z.z.b]) ∧ TnS W' W'.heap.size ⟨al, cl, ar, cr, arl, crl, arr, crr, at_, ct⟩ t ∧ SlS W' W'.heap.size (.slice A1 s.length c1) s) ∧ Row W' g14 45 [.slice y.ai M.i.length y.ci, .slice y.am M.m.length y.cm, .slice y.ao M.o.length y.co, .slice y.al M.l.length y.cl, .slice y.ar M.r.length y.cr] ∧ MxS W' W'.heap.size y M) ∧ SlI W' W'.heap.size (.slice (some ⟨gz, 0, none⟩) s.length s.length) zs) ∧ SlI W' W'.heap.size v17 ones) ∧ SlG 36 Og.cells W' W'.heap.size v18 OL) ∧ SlG 36 Og.cells W' W'.heap.size v20 OO) ∧ Row W' g24 45 [.slice y.ai M.i.length y.ci, .slice (some ⟨g4, 0, none⟩) s.length cap4, .slice y.ao s.length y.co, .slice y.al M.l.length y.cl, .slice y.ar M.r.length y.cr] ∧ SlS W' W'.heap.size (.slice (some ⟨g4, 0, none⟩) s.length cap4) (M.m.set k z))) (by kernel_rfl) (by kernel_rfl) (fun _ _ d _ _ h => by cases d <;> exact h) (k7 (Below.refl _ _).drew h7) ?_
      replace h7 := k7 (Below.refl _ _).drew h7
      generalize w15.drew = V1 at *
      refine wpTree_take (v := ?_) rfl (by kernel_rfl) (fun w hSw => ?_) ?_
      rotate_left 1
      · obtain ⟨x0, x1, x2, x3, x4, x5⟩ := HC1.out _ hSw
        go_simp
        with_reducible rfl
      simp only [Act.put, List.setIfInBounds_toArray, List.set_cons_zero, List.set_cons_succ]
      refine wpTree_take (v := ?_) rfl (by kernel_rfl) (fun w hSw => ?_) ?_
      rotate_left 1
      · go_simp
        with_reducible rfl
      simp only [Act.put, List.setIfInBounds_toArray, List.set_cons_zero, List.set_cons_succ]
      refine wpTree_take (v := ?_) rfl (by kernel_rfl) (fun w hSw => ?_) ?_
      rotate_left 1
      · obtain ⟨m0, m1, m2, m3, m4⟩ := HC2.out _ hSw
        go_simp
        with_reducible rfl
      simp only [Act.put, List.setIfInBounds_toArray, List.set_cons_zero, List.set_cons_succ]
      refine wpTree_take (v := ?_) rfl (by kernel_rfl) (fun w hSw => ?_) ?_
      rotate_left 1
      · go_simp
        with_reducible rfl
      simp only [Act.put, List.setIfInBounds_toArray, List.set_cons_zero, List.set_cons_succ]
      refine wpTree_take (v := ?_) rfl (by kernel_rfl) (fun w hSw => ?_) ?_
      rotate_left 1
      · go_simp
        with_reducible rfl
      simp only [Act.put, List.setIfInBounds_toArray, List.set_cons_zero, List.set_cons_succ]
      refine wpTree_take (v := ?_) rfl (by kernel_rfl) (fun w hSw => ?_) ?_
      rotate_left 1
      · obtain ⟨p0, p1, p2, p3, p4, p5⟩ := HC5.out _ hSw
        go_simp
        with_reducible rfl
      simp only [Act.put, List.setIfInBounds_toArray, List.set_cons_zero, List.set_cons_succ]
      refine wpTree_take (v := ?_) rfl (by kernel_rfl) (fun w hSw => ?_) ?_
      rotate_left 1
      · go_simp
        with_reducible rfl
      simp only [Act.put, List.setIfInBounds_toArray, List.set_cons_zero, List.set_cons_succ]
      refine wpTree_take (v := ?_) rfl (by kernel_rfl) (fun w hSw => ?_) ?_
      rotate_left 1
      · go_simp
        with_reducible rfl
      simp only [Act.put, List.setIfInBounds_toArray, List.set_cons_zero, List.set_cons_succ]
      iterate 12
        refine wpTree_skip rfl (by kernel_rfl) ?_
        simp only [Act.put, List.setIfInBounds_toArray, List.set_cons_zero, List.set_cons_succ]
      refine wpTree_done ?_
      simp only [List.drop_succ_cons, List.drop_zero]
      go_wp2_with fail
      go_meet
      exact ⟨rfl, h7⟩
    | false =>
      have hzn : z ≠ Pm := fun e => by rw [e, eqSe_self] at f8; cases f8
      have bq : ∀ w, (Op.equalIn 10000 68 z.val Pm.val).run Tryd.prog w = .ok false w := fun w => by have := runS z Pm w; rw [f8] at this; exact this
      unfold Se.val at bq
      refine wp_region_tree 20 (.take 0 (.take 1 (.take 2 (.take 3 (.take 4 (.take 5 (.take 6 (.take 7 (.take 8 (.take 9 (.take 10 (.take 11 (.one 12 (.take 13 (.take 14 (.take 15 (.take 16 (.take 17 (.one 18 (.take 19 .done))))))))))))))))))))
        (fun W' => ((((((((Below w.heap.size w W' ∧ Row W' w.heap.size 26 [.slice al t.l.length cl, .slice ar t.r.length cr, .slice arl t.rl.length crl, .slice arr t.rr.length crr, .slice at_ t.s.length ct] ∧ Row W' (w.heap.size + 1) 68 [.int .i64 z.x.a, .int .i64 z.x.b, .int .i64 z.y.a, .int .i64 z.y.b, .int .i64 z.z.a, .int .i64 z.z.b]) ∧ TnS W' W'.heap.size ⟨al, cl, ar, cr, arl, crl, arr, crr, at_, ct⟩ t ∧ SlS W' W'.heap.size (.slice A1 s.length c1) s) ∧ Row W' g14 45 [.slice y.ai M.i.length y.ci, .slice y.am M.m.length y.cm, .slice y.ao M.o.length y.co, .slice y.al M.l.length y.cl, .slice y.ar M.r.length y.cr] ∧ MxS W' W'.heap.size y M) ∧ SlI W' W'.heap.size (.slice (some ⟨gz, 0, none⟩) s.length s.length) zs) ∧ SlI W' W'.heap.size v17 ones) ∧ SlG 36 Og.cells W' W'.heap.size v18 OL) ∧ SlG 36 Og.cells W' W'.heap.size v20 OO) ∧ Row W' g24 45 [.slice y.ai M.i.length y.ci, .slice (some ⟨g4, 0, none⟩) s.length cap4, .slice y.ao s.length y.co, .slice y.al M.l.length y.cl, .slice y.ar M.r.length y.cr] ∧ SlS W' W'.heap.size (.slice (some ⟨g4, 0, none⟩) s.length cap4) (M.m.set k z))) (by kernel_rfl) (by kernel_rfl) (fun _ _ d _ _ h => by cases d <;> exact h) (k7 (Below.refl _ _).drew h7) ?_
      replace h7 := k7 (Below.refl _ _).drew h7
      generalize w15.drew = V1 at *
      refine wpTree_take (v := ?_) rfl (by kernel_rfl) (fun w hSw => ?_) ?_
      rotate_left 1
      · obtain ⟨x0, x1, x2, x3, x4, x5⟩ := HC1.out _ hSw
        go_simp
        with_reducible rfl
      simp only [Act.put, List.setIfInBounds_toArray, List.set_cons_zero, List.set_cons_succ]
      refine wpTree_take (v := ?_) rfl (by kernel_rfl) (fun w hSw => ?_) ?_
      rotate_left 1
      · go_simp
        with_reducible rfl
      simp only [Act.put, List.setIfInBounds_toArray, List.set_cons_zero, List.set_cons_succ]
      refine wpTree_take (v := ?_) rfl (by kernel_rfl) (fun w hSw => ?_) ?_
      rotate_left 1
      · obtain ⟨m0, m1, m2, m3, m4⟩ := HC2.out _ hSw
        go_simp
        with_reducible rfl
      simp only [Act.put, List.setIfInBounds_toArray, List.set_cons_zero, List.set_cons_succ]
      refine wpTree_take (v := ?_) rfl (by kernel_rfl) (fun w hSw => ?_) ?_
      rotate_left 1
      · go_simp
        with_reducible rfl
      simp only [Act.put, List.setIfInBounds_toArray, List.set_cons_zero, List.set_cons_succ]
      refine wpTree_take (v := ?_) rfl (by kernel_rfl) (fun w hSw => ?_) ?_
      rotate_left 1
      · go_simp
        with_reducible rfl
      simp only [Act.put, List.setIfInBounds_toArray, List.set_cons_zero, List.set_cons_succ]
      refine wpTree_take (v := ?_) rfl (by kernel_rfl) (fun w hSw => ?_) ?_
      rotate_left 1
      · obtain ⟨p0, p1, p2, p3, p4, p5⟩ := HC5.out _ hSw
        go_simp
        with_reducible rfl
      simp only [Act.put, List.setIfInBounds_toArray, List.set_cons_zero, List.set_cons_succ]
      refine wpTree_take (v := ?_) rfl (by kernel_rfl) (fun w hSw => ?_) ?_
      rotate_left 1
      · go_simp
        with_reducible rfl
      simp only [Act.put, List.setIfInBounds_toArray, List.set_cons_zero, List.set_cons_succ]
      refine wpTree_take (v := ?_) rfl (by kernel_rfl) (fun w hSw => ?_) ?_
      rotate_left 1
      · go_simp
        with_reducible rfl
      simp only [Act.put, List.setIfInBounds_toArray, List.set_cons_zero, List.set_cons_succ]
      refine wpTree_take (v := ?_) rfl (by kernel_rfl) (fun w hSw => ?_) ?_
      rotate_left 1
      · go_simp
        with_reducible rfl
      simp only [Act.put, List.setIfInBounds_toArray, List.set_cons_zero, List.set_cons_succ]
      refine wpTree_take (v := ?_) rfl (by kernel_rfl) (fun w hSw => ?_) ?_
      rotate_left 1
      · obtain ⟨n0, n1, n2, n3, n4⟩ := HC3.out _ hSw
        go_simp
        with_reducible rfl
      simp only [Act.put, List.setIfInBounds_toArray, List.set_cons_zero, List.set_cons_succ]
      refine wpTree_take (v := ?_) rfl (by kernel_rfl) (fun w hSw => ?_) ?_
      rotate_left 1
      · go_simp
        with_reducible rfl
      simp only [Act.put, List.setIfInBounds_toArray, List.set_cons_zero, List.set_cons_succ]
      refine wpTree_take (v := ?_) rfl (by kernel_rfl) (fun w hSw => ?_) ?_
      rotate_left 1
      · go_simp
        with_reducible rfl
      simp only [Act.put, List.setIfInBounds_toArray, List.set_cons_zero, List.set_cons_succ]
      refine wpTree_one rfl (fun K hK => ⟨by kernel_rfl, ?_⟩)
      go_simp
      go_at_call 22
      refine (CKa.out hzn _ h7).mono ?_
      rintro e V2 ⟨rfl, hb⟩
      replace h7 := k7 hb h7
      refine hK _ _ h7 ?_
      clear hK K hb
      try simp only [Act.put, List.setIfInBounds_toArray, List.set_cons_zero, List.set_cons_succ]
      refine wpTree_take (v := ?_) rfl (by kernel_rfl) (fun w hSw => ?_) ?_
      rotate_left 1
      · go_simp
        with_reducible rfl
      simp only [Act.put, List.setIfInBounds_toArray, List.set_cons_zero, List.set_cons_succ]
      refine wpTree_take (v := ?_) rfl (by kernel_rfl) (fun w hSw => ?_) ?_
      rotate_left 1
      · go_simp
        with_reducible rfl
      simp only [Act.put, List.setIfInBounds_toArray, List.set_cons_zero, List.set_cons_succ]
      refine wpTree_take (v := ?_) rfl (by kernel_rfl) (fun w hSw => ?_) ?_
      rotate_left 1
      · obtain ⟨n0, n1, n2, n3, n4⟩ := HC3.out _ hSw
        go_simp
        with_reducible rfl
      simp only [Act.put, List.setIfInBounds_toArray, List.set_cons_zero, List.set_cons_succ]
      refine wpTree_take (v := ?_) rfl (by kernel_rfl) (fun w hSw => ?_) ?_
      rotate_left 1
      · go_simp
        with_reducible rfl
      simp only [Act.put, List.setIfInBounds_toArray, List.set_cons_zero, List.set_cons_succ]
      refine wpTree_take (v := ?_) rfl (by kernel_rfl) (fun w hSw => ?_) ?_
      rotate_left 1
      · go_simp
        with_reducible rfl
      simp only [Act.put, List.setIfInBounds_toArray, List.set_cons_zero, List.set_cons_succ]
      refine wpTree_one rfl (fun K hK => ⟨by kernel_rfl, ?_⟩)
      go_simp
      go_at_call 22
      refine (CKb.out hzn _ h7).mono ?_
      rintro e V3 ⟨rfl, hb⟩
      replace h7 := k7 hb h7
      refine hK _ _ h7 ?_
      clear hK K hb
      try simp only [Act.put, List.setIfInBounds_toArray, List.set_cons_zero, List.set_cons_succ]
      refine wpTree_take (v := ?_) rfl (by kernel_rfl) (fun w hSw => ?_) ?_
      rotate_left 1
      · go_simp
        with_reducible rfl
      simp only [Act.put, List.setIfInBounds_toArray, List.set_cons_zero, List.set_cons_succ]
      refine wpTree_done ?_
      simp only [List.drop_succ_cons, List.drop_zero]
      go_wp2_with fail
      go_meet
      exact ⟨rfl, h7⟩
  case rest =>
  obtain ⟨rfl, h7⟩ := hcut
  have h5 := h7.1
  clear h7 CKa CKb HC1 HC2 HC3 HC5 k7
  obtain ⟨e0, e1, e2, e3, e4⟩ := st5c h5.1.1.1.1.1.1.2.1
  have hrl := h5.1.1.1.1.1.2.1.rl
  have hrll : t.rl.length = s.length := (rightB_facts HF.out.2.2.2.1).2.2.1
  go_wp2_with fail
  clear e0 e1 e2 e3 e4
  go_loopg [25, 175] s.length (fun g f i wr => ∃ (k : Nat) (b : Bool), f = .bool b ∧ i = .int .i64 k ∧ k + g = s.length ∧ Below wc.heap.size wc wr ∧ (b = true → ∃ j, j < s.length ∧ (t.rl.getD j default).p % 1073741789 ≠ 0))
  case atStart => exact ⟨0, false, rfl, rfl, by omega, Below.refl _ _, fun h => by cases h⟩
  case round =>
    obtain ⟨n, b, rfl, rfl, hng, hBr, hfl⟩ := hrel
    by_cases hlt : n < s.length
    · obtain ⟨b2, o2, rfl, hb2, d⟩ := sl_at (hrl.below hBr) (j := n) (by omega)
      obtain ⟨r, hr⟩ : ∃ r, t.rl.getD n default = r := ⟨_, rfl⟩
      rw [hr] at d
      have d0 : wr.cell? ⟨b2, o2 + n * 3, none⟩ = some (.int .i64 r.p) := d 0 (by omega)
      have d1 : wr.cell? ⟨b2, o2 + n * 3 + 1, none⟩ = some (.int .i64 r.q) := d 1 (by omega)
      have d2 : wr.cell? ⟨b2, o2 + n * 3 + 2, none⟩ = some (.int .i64 r.r) := d 2 (by omega)
      have hn1 : (n : Int) < t.rl.length := by omega
      have hn2 : (0 : Int) ≤ n := by omega
      clear d
      have HFL := Lib.hid hfl
      have HR := Lib.hid hr
      clear hfl hr
      have hB1 := hBr.alloc hBr.size (.cells #[.int .i64 r.p, .int .i64 r.q, .int .i64 r.r] 56)
      cases hb0 : b with
      | true =>
        go_wp2_with fail
        go_roundg (gk - 1)
        case measure => omega
        case rel => exact ⟨n + 1, true, rfl, by first | rfl | go_num, by omega, hB1, fun _ => HFL.out hb0⟩
      | false =>
        cases g8 : (r.p.tmod 1073741789 != 0) with
        | true =>
          go_wp2_with fail
          go_roundg (gk - 1)
          case measure => omega
          case rel =>
            refine ⟨n + 1, true, rfl, by first | rfl | go_num, by omega, hB1, fun _ => ⟨n, hlt, ?_⟩⟩
            rw [HR.out]
            intro e
            have := Int.tmod_eq_zero_of_dvd (Int.dvd_of_emod_eq_zero e)
            rw [this] at g8
            cases g8
        | false =>
          go_wp2_with fail
          go_roundg (gk - 1)
          case measure => omega
          case rel => exact ⟨n + 1, false, rfl, by first | rfl | go_num, by omega, hB1, fun h => by cases h⟩
    · obtain rfl : n = s.length := by omega
      clear hrl
      have hchk : b = true → (key != second) = true → checkB second M zs OL = false := fun hb hne => by
        obtain ⟨j, hj, hm⟩ := hfl hb
        have := nt_key (key := key) (second := second) (bits := zs) HF.out.1 HF.out.2.1 HF.out.2.2.1 HF.out.2.2.2.1 HBL.out HZB.out HZ0.out hj hm (by simpa using hne)
        rw [HM.out.2, HOL.out.2] at this
        exact this
      have h6 := k5 hBr h5
      clear h5 hBr hfl
      have CKs : checkB second M zs OL = false → Calls Tryd.prog 22 #[.int .i64 second, .agg #[.slice y.ai M.i.length y.ci, .slice y.am s.length y.cm, .slice y.ao s.length y.co, .slice y.al M.l.length y.cl, .slice y.ar M.r.length y.cr], .slice (some ⟨gz, 0, none⟩) s.length s.length, v18] wr fun e w' => e = .returned (.bool false) ∧ Below wr.heap.size wr w' := by
        intro hc
        have := check_any second y M zs OL (.slice (some ⟨gz, 0, none⟩) s.length s.length) v18 wr (HT.out.below h6.1.1.1.1.1.1.1) h6.1.1.1.1.2.2 h6.1.1.1.2 h6.1.2 HMOK.out HOLK.out
        rw [hc] at this
        unfold MxA.cells at this
        rw [hmo, hmm] at this
        exact this
      have HCK := Lib.hid hchk
      have CKs := Lib.hid CKs
      clear hchk
      obtain ⟨m0, m1, m2, m3, m4⟩ := st5c h6.1.1.1.1.2.1
      cases hb0 : b with
      | false =>
        go_wp2_with fail
        go_ret
        exact ⟨rfl, h6.1.1.1.1.1.1.1⟩
      | true =>
        cases g9 : (key != second) with
        | false =>
          go_wp2_with fail
          go_ret
          exact ⟨rfl, h6.1.1.1.1.1.1.1⟩
        | true =>
          have CKt := Lib.hid (CKs.out (HCK.out hb0 g9))
          go_wp2_with (go_at_call 22; (with_reducible refine (CKt.out).mono ?_); rintro e w30 ⟨rfl, hb⟩; replace h6 := k5 hb h6; clear hb)
          go_ret
          exact ⟨rfl, h6.1.1.1.1.1.1.1⟩
end Go.Proofs.YthboebhghaabnaaDoor
