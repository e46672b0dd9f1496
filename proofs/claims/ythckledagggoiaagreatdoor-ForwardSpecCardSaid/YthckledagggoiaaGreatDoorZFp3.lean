import Derived.Test.YthckledagggoiaaGreatDoorZFp0
import Derived.Test.YthckledagggoiaaGreatDoorZFp2
import Derived.Test.YthckledagggoiaaGreatDoorZMa
set_option linter.unusedSimpArgs false
set_option linter.unusedVariables false
namespace Go.Proofs.YthckledagggoiaaGreatDoor
open Go.RowKit Go.Shelf Fk Sha
/-! frankingref36.Next -/
structure NS (w W : World) (n : Int) (v : Value) (x : Fw) : Prop where
  bel : Below w.heap.size w W
  r0 : Row W w.heap.size 24 [.int .i64 n, v]
  r1 : Row W (w.heap.size + 1) 38 x.cells
theorem NS.below {w W W' : World} {n : Int} {v : Value} {x : Fw} (h : NS w W n v x) (hb : Below W.heap.size W W') : NS w W' n v x := ⟨h.bel.trans (hb.mono h.bel.size), h.r0.below hb h.r0.lt, h.r1.below hb h.r1.lt⟩
theorem NS.setX {w W : World} {n : Int} {v : Value} {x : Fw} (h : NS w W n v x) (y : Fw) : NS w (W.setRow (w.heap.size + 1) y.cells.toArray) n v y :=
  ⟨below_setRow h.bel (by simp) _, Row.setOther h.r0 (by simp) _, Row.part h.r1 _⟩
theorem NS.cells {w W : World} {n : Int} {v : Value} {x : Fw} (h : NS w W n v x) : W.cell? ⟨w.heap.size, 0, none⟩ = some (.int .i64 n) ∧ W.cell? ⟨w.heap.size, 1, none⟩ = some v := ⟨h.r0.cell 0, h.r0.cell 1⟩
theorem NS.start (w : World) (n : Int) (v : Value) : NS w ((w.alloc (.cells #[.int .i64 n, v] 24)).alloc (.cells zeroF.cells.toArray 38)) n v zeroF := by
  have a0 := Row.new w 24 [.int .i64 n, v]
  have B0 := below_alloc' w (.cells #[.int .i64 n, v] 24)
  have s0 : (w.alloc (.cells #[.int .i64 n, v] 24)).heap.size = w.heap.size + 1 := by simp
  generalize w.alloc (.cells #[.int .i64 n, v] 24) = W0 at *
  have a1 := Row.new W0 38 zeroF.cells
  rw [s0] at a1
  exact ⟨B0.alloc B0.size _, a0.alloc _, a1⟩
theorem ret_rnext (tmps : Array Value) (W : World) (g : Nat) (cs : List Value) (E : Int) (hl : cs.length = 39) (h4 : tmps[20]?.getD undef = .pointer (some ⟨g, 0, none⟩)) (h5 : tmps[21]?.getD undef = .int .i64 E) (hr : Row W g 38 cs) :
    (results Tryz.f12 tmps).run Tryz.prog W = .ok (.tuple #[.agg cs.toArray, .int .i64 E]) W := by
  have hinf : (Tryz.prog.info? 38).map (·.size) = some 39 := by kernel_rfl
  have h := run_loadVar_row (P := Tryz.prog) W g 38 38 cs.toArray (0, 0) _ hr Tryz.underlying38 rfl (by rw [hinf]; simp [hl])
  simp [results, Tryz.f12, h4, h5, asAddr, h]
set_option maxRecDepth 100000 in
theorem built_full (a b d : Int) (r : List Value) (hr : r.length = 36) : Tryz.prog.built 38 [(0, .agg #[.int .i64 a, .int .i64 b, .int .i64 d]), (1, .agg r.toArray)] = some (([.int .i64 a, .int .i64 b, .int .i64 d] : List Value) ++ r).toArray := by
  iterate 36 (obtain _ | ⟨_, r⟩ := r; · simp at hr)
  obtain _ | ⟨_, r⟩ := r
  · kernel_rfl
  · simp at hr
set_option maxRecDepth 100000 in
theorem wpList_build_full {ops : Array Oper} {rest : List Oper} {o : Oper} {A : Act} {w : World} {Q : Exit → Act → World → Prop} (hw : Region.wanted o (yielded ops A.tmps) = true) (x y : Operand) (ho : o.op = .build 38 #[(0, x), (1, y)]) (a b d : Int) (r : List Value) (hr : r.length = 36)
    (hx : A.eval x = .agg #[.int .i64 a, .int .i64 b, .int .i64 d]) (hy : A.eval y = .agg r.toArray) (h : wpList Tryz.prog ops Q rest (A.put o.dst (.agg (([.int .i64 a, .int .i64 b, .int .i64 d] : List Value) ++ r).toArray)) w) : wpList Tryz.prog ops Q (o :: rest) A w :=
  wpList_build_at hw 38 _ ho (([.int .i64 a, .int .i64 b, .int .i64 d] : List Value) ++ r).toArray (by
    simp only [List.map_toArray, List.map_cons, List.map_nil, hx, hy]
    exact built_full a b d r hr) h
/-- what stands behind whatever exit: the answer is stored, and its length -/
theorem stF {x : Fw} (h : x.ds.length = 32) : (Tryz.prog.info? 38).map (·.size) = some x.cells.toArray.size ∧ zeroF.cells.toArray.size = x.cells.toArray.size ∧ x.cells.toArray.all (·.oneCell') = true := by
  have hl := Fw.len h
  refine ⟨by rw [List.size_toArray, hl]; kernel_rfl, by rw [List.size_toArray, List.size_toArray, hl]; rfl, all_oneCell_toArray (Fw.one x)⟩
set_option maxRecDepth 100000 in
set_option maxHeartbeats 8000000 in
theorem rnext_err (l : List Lx) (n : Int) (A : Option Addr) (c : Nat) (keys : List Int) (Ak : Option Addr) (ck : Nat) (s : Int) (en : List En) (ev : Value) (people office al day time r : Int) (w : World) (hl : SlX w w.heap.size (.slice A l.length c) l) (hk : SlI w w.heap.size (.slice Ak keys.length ck) keys) (he : SlE w w.heap.size ev en) (hcap : capX l) (E : Int) (hE : errR l n keys s people office = E) (h0 : E ≠ 0) :
    Calls Tryz.prog 12 #[ttV n (.slice A l.length c), .slice Ak keys.length ck, .int .i64 s, ev, .int .i64 people, .int .i64 office, .int .i64 al, .int .i64 day, .int .i64 time, .int .i64 r] w
      fun e w' => e = .returned (fwV zeroF E) ∧ Below w.heap.size w w' := by
  have her := fun (W : World) (hb : Below w.heap.size w W) => rerror_any l n (.slice A l.length c) keys (.slice Ak keys.length ck) s people office W (hl.below hb) ((hk.below hb).mono hb.size) hcap
  rw [hE] at her
  have ER := Lib.hid her
  clear her
  have hsf := stF (x := zeroF) rfl
  have hfl := Fw.len (x := zeroF) rfl
  have SF := Lib.hid hsf
  have HL := Lib.hid hfl
  clear hsf hfl
  have z : (E == 0) = false := beq_eq_false_iff_ne.2 h0
  clear hl hk he hcap hE h0
  go_enter Tryz.func12, Tryz.ntmps12
  go_upto_region 1 with fail
  have hS := NS.start w n (.slice A l.length c)
  obtain ⟨W, hW⟩ : ∃ W, (w.alloc (.cells #[.int .i64 n, .slice A l.length c] 24)).alloc (.cells zeroF.cells.toArray 38) = W := ⟨_, rfl⟩
  rw [hW] at hS
  refine (show _ = W from hW) ▸ ?_
  clear hW
  obtain ⟨t0, t1⟩ := hS.cells
  go_wp2_with (first
    | (go_at_call 44; (with_reducible refine (ER.out _ hS.bel).mono ?_); rintro e X1 ⟨rfl, hb⟩; replace hS := hS.below hb; clear hb t0 t1; obtain ⟨t0, t1⟩ := hS.cells)
    | (refine wpList_build_at (by kernel_rfl) 38 #[] rfl zeroF.cells.toArray (by kernel_rfl) ?_)
    | (refine wpList_store_row rfl 38 _ _ rfl (w.heap.size + 1) zeroF.cells.toArray rfl rfl 38 zeroF.cells.toArray hS.r1 SF.out.1 rfl SF.out.2.2 ?_; replace hS := hS.setX (zeroF); generalize World.setRow _ (w.heap.size + 1) zeroF.cells.toArray = WS at *))
  exact bodyPost_ret (ret_rnext _ _ _ _ _ HL.out rfl rfl hS.r1) rfl ⟨rfl, hS.bel⟩
set_option maxRecDepth 100000 in
set_option maxHeartbeats 8000000 in
theorem rnext_find (l : List Lx) (n : Int) (A : Option Addr) (c : Nat) (keys : List Int) (Ak : Option Addr) (ck : Nat) (s : Int) (en : List En) (ev : Value) (people office al day time r : Int) (w : World) (hl : SlX w w.heap.size (.slice A l.length c) l) (hk : SlI w w.heap.size (.slice Ak keys.length ck) keys) (he : SlE w w.heap.size ev en) (hcap : capX l) (h0 : errR l n keys s people office = 0) (hc0 : chkK l keys s people office = 0) (q : Int) (hf : findV s people office al = (q, false)) :
    Calls Tryz.prog 12 #[ttV n (.slice A l.length c), .slice Ak keys.length ck, .int .i64 s, ev, .int .i64 people, .int .i64 office, .int .i64 al, .int .i64 day, .int .i64 time, .int .i64 r] w
      fun e w' => e = .returned (fwV zeroF 350) ∧ Below w.heap.size w w' := by
  have her := fun (W : World) (hb : Below w.heap.size w W) => rerror_any l n (.slice A l.length c) keys (.slice Ak keys.length ck) s people office W (hl.below hb) ((hk.below hb).mono hb.size) hcap
  rw [h0] at her
  have ER := Lib.hid her
  clear her
  have hck := (chkK_0 hc0).2.2.1
  have hfi := fun (W : World) => rFind_any s people office al W
  rw [hf, hck] at hfi
  have FI := Lib.hid hfi
  clear hfi hck
  have hsf := stF (x := zeroF) rfl
  have hfl := Fw.len (x := zeroF) rfl
  have SF := Lib.hid hsf
  have HL := Lib.hid hfl
  clear hsf hfl
  clear hl hk he hcap h0 hc0 hf
  go_enter Tryz.func12, Tryz.ntmps12
  go_upto_region 1 with fail
  have hS := NS.start w n (.slice A l.length c)
  obtain ⟨W, hW⟩ : ∃ W, (w.alloc (.cells #[.int .i64 n, .slice A l.length c] 24)).alloc (.cells zeroF.cells.toArray 38) = W := ⟨_, rfl⟩
  rw [hW] at hS
  refine (show _ = W from hW) ▸ ?_
  clear hW
  obtain ⟨t0, t1⟩ := hS.cells
  go_wp2_with (first
    | (go_at_call 44; (with_reducible refine (ER.out _ hS.bel).mono ?_); rintro e X1 ⟨rfl, hb⟩; replace hS := hS.below hb; clear hb t0 t1; obtain ⟨t0, t1⟩ := hS.cells)
    | (go_at_call 29; (with_reducible refine (FI.out _).mono ?_); rintro e X2 ⟨rfl, hb⟩; replace hS := hS.below hb; clear hb t0 t1; obtain ⟨t0, t1⟩ := hS.cells)
    | (refine wpList_build_at (by kernel_rfl) 38 #[] rfl zeroF.cells.toArray (by kernel_rfl) ?_)
    | (refine wpList_store_row rfl 38 _ _ rfl (w.heap.size + 1) zeroF.cells.toArray rfl rfl 38 zeroF.cells.toArray hS.r1 SF.out.1 rfl SF.out.2.2 ?_; replace hS := hS.setX (zeroF); generalize World.setRow _ (w.heap.size + 1) zeroF.cells.toArray = WS at *))
  exact bodyPost_ret (ret_rnext _ _ _ _ _ HL.out rfl rfl hS.r1) rfl ⟨rfl, hS.bel⟩
set_option maxRecDepth 100000 in
set_option maxHeartbeats 8000000 in
theorem rnext_where (l : List Lx) (n : Int) (A : Option Addr) (c : Nat) (keys : List Int) (Ak : Option Addr) (ck : Nat) (s : Int) (en : List En) (ev : Value) (people office al day time r : Int) (w : World) (hl : SlX w w.heap.size (.slice A l.length c) l) (hk : SlI w w.heap.size (.slice Ak keys.length ck) keys) (he : SlE w w.heap.size ev en) (hcap : capX l) (h0 : errR l n keys s people office = 0) (hc0 : chkK l keys s people office = 0) (q : Int) (hf : findV s people office al = (q, true)) (a b d : Int) (hw : whereH en q day time = (a, b, d)) (E : Int) (hE : openE en q day time = E) (hne : E ≠ 0) :
    Calls Tryz.prog 12 #[ttV n (.slice A l.length c), .slice Ak keys.length ck, .int .i64 s, ev, .int .i64 people, .int .i64 office, .int .i64 al, .int .i64 day, .int .i64 time, .int .i64 r] w
      fun e w' => e = .returned (fwV zeroF E) ∧ Below w.heap.size w w' := by
  have her := fun (W : World) (hb : Below w.heap.size w W) => rerror_any l n (.slice A l.length c) keys (.slice Ak keys.length ck) s people office W (hl.below hb) ((hk.below hb).mono hb.size) hcap
  rw [h0] at her
  have ER := Lib.hid her
  clear her
  have hck := (chkK_0 hc0).2.2.1
  have hfi := fun (W : World) => rFind_any s people office al W
  rw [hf, hck] at hfi
  have FI := Lib.hid hfi
  clear hfi hck
  have hwh : ∀ (W : World), Below w.heap.size w W → Calls Tryz.prog 45 #[ev, .int .i64 q, .int .i64 day, .int .i64 time] W fun e w' => e = .returned (.tuple #[.agg #[.int .i64 a, .int .i64 b, .int .i64 d], .int .i64 E]) ∧ Below W.heap.size W w' := fun W hb => by
    have := r34where_any en ev q day time W ((he.below hb).mono hb.size)
    rw [hw, hE] at this
    exact this
  have WH := Lib.hid hwh
  clear hwh
  have hsf := stF (x := zeroF) rfl
  have hfl := Fw.len (x := zeroF) rfl
  have SF := Lib.hid hsf
  have HL := Lib.hid hfl
  clear hsf hfl
  have z : (E == 0) = false := beq_eq_false_iff_ne.2 hne
  clear hl hk he hcap h0 hc0 hf hw hE hne
  go_enter Tryz.func12, Tryz.ntmps12
  go_upto_region 1 with fail
  have hS := NS.start w n (.slice A l.length c)
  obtain ⟨W, hW⟩ : ∃ W, (w.alloc (.cells #[.int .i64 n, .slice A l.length c] 24)).alloc (.cells zeroF.cells.toArray 38) = W := ⟨_, rfl⟩
  rw [hW] at hS
  refine (show _ = W from hW) ▸ ?_
  clear hW
  obtain ⟨t0, t1⟩ := hS.cells
  go_wp2_with (first
    | (go_at_call 44; (with_reducible refine (ER.out _ hS.bel).mono ?_); rintro e X1 ⟨rfl, hb⟩; replace hS := hS.below hb; clear hb t0 t1; obtain ⟨t0, t1⟩ := hS.cells)
    | (go_at_call 29; (with_reducible refine (FI.out _).mono ?_); rintro e X2 ⟨rfl, hb⟩; replace hS := hS.below hb; clear hb t0 t1; obtain ⟨t0, t1⟩ := hS.cells)
    | (go_at_call 45; (with_reducible refine (WH.out _ hS.bel).mono ?_); rintro e X3 ⟨rfl, hb⟩; replace hS := hS.below hb; clear hb t0 t1; have rH := Row.new X3 30 [.int .i64 a, .int .i64 b, .int .i64 d]; have hbn := below_alloc' X3 (.cells #[.int .i64 a, .int .i64 b, .int .i64 d] 30); replace hS := hS.below hbn; clear hbn)
    | (refine wpList_build_at (by kernel_rfl) 38 #[] rfl zeroF.cells.toArray (by kernel_rfl) ?_)
    | (refine wpList_store_row rfl 38 _ _ rfl (w.heap.size + 1) zeroF.cells.toArray rfl rfl 38 zeroF.cells.toArray hS.r1 SF.out.1 rfl SF.out.2.2 ?_; replace hS := hS.setX (zeroF); generalize World.setRow _ (w.heap.size + 1) zeroF.cells.toArray = WS at *))
  exact bodyPost_ret (ret_rnext _ _ _ _ _ HL.out rfl rfl hS.r1) rfl ⟨rfl, hS.bel⟩
set_option maxRecDepth 100000 in
set_option maxHeartbeats 8000000 in
theorem rnext_home1 (l : List Lx) (n : Int) (A : Option Addr) (c : Nat) (keys : List Int) (Ak : Option Addr) (ck : Nat) (s : Int) (en : List En) (ev : Value) (people office al day time r : Int) (w : World) (hl : SlX w w.heap.size (.slice A l.length c) l) (hk : SlI w w.heap.size (.slice Ak keys.length ck) keys) (he : SlE w w.heap.size ev en) (hcap : capX l) (h0 : errR l n keys s people office = 0) (hc0 : chkK l keys s people office = 0) (q : Int) (hf : findV s people office al = (q, true)) (a b d : Int) (hw : whereH en q day time = (a, b, d)) (hE : openE en q day time = 0) (h4 : a ≠ 1) :
    Calls Tryz.prog 12 #[ttV n (.slice A l.length c), .slice Ak keys.length ck, .int .i64 s, ev, .int .i64 people, .int .i64 office, .int .i64 al, .int .i64 day, .int .i64 time, .int .i64 r] w
      fun e w' => e = .returned (fwV (homeF (a, b, d)) 0) ∧ Below w.heap.size w w' := by
  have her := fun (W : World) (hb : Below w.heap.size w W) => rerror_any l n (.slice A l.length c) keys (.slice Ak keys.length ck) s people office W (hl.below hb) ((hk.below hb).mono hb.size) hcap
  rw [h0] at her
  have ER := Lib.hid her
  clear her
  have hck := (chkK_0 hc0).2.2.1
  have hfi := fun (W : World) => rFind_any s people office al W
  rw [hf, hck] at hfi
  have FI := Lib.hid hfi
  clear hfi hck
  have hwh : ∀ (W : World), Below w.heap.size w W → Calls Tryz.prog 45 #[ev, .int .i64 q, .int .i64 day, .int .i64 time] W fun e w' => e = .returned (.tuple #[.agg #[.int .i64 a, .int .i64 b, .int .i64 d], .int .i64 0]) ∧ Below W.heap.size W w' := fun W hb => by
    have := r34where_any en ev q day time W ((he.below hb).mono hb.size)
    rw [hw, hE] at this
    exact this
  have WH := Lib.hid hwh
  clear hwh
  have hsf := stF (x := homeF (a, b, d)) rfl
  have hfl := Fw.len (x := homeF (a, b, d)) rfl
  have SF := Lib.hid hsf
  have HL := Lib.hid hfl
  clear hsf hfl
  have z : (a == 1) = false := beq_eq_false_iff_ne.2 h4
  clear hl hk he hcap h0 hc0 hf hw hE h4
  go_enter Tryz.func12, Tryz.ntmps12
  go_upto_region 1 with fail
  have hS := NS.start w n (.slice A l.length c)
  obtain ⟨W, hW⟩ : ∃ W, (w.alloc (.cells #[.int .i64 n, .slice A l.length c] 24)).alloc (.cells zeroF.cells.toArray 38) = W := ⟨_, rfl⟩
  rw [hW] at hS
  refine (show _ = W from hW) ▸ ?_
  clear hW
  obtain ⟨t0, t1⟩ := hS.cells
  go_upto_region 8 with (first
    | (go_at_call 44; (with_reducible refine (ER.out _ hS.bel).mono ?_); rintro e X1 ⟨rfl, hb⟩; replace hS := hS.below hb; clear hb t0 t1; obtain ⟨t0, t1⟩ := hS.cells)
    | (go_at_call 29; (with_reducible refine (FI.out _).mono ?_); rintro e X2 ⟨rfl, hb⟩; replace hS := hS.below hb; clear hb t0 t1; obtain ⟨t0, t1⟩ := hS.cells)
    | (go_at_call 45; (with_reducible refine (WH.out _ hS.bel).mono ?_); rintro e X3 ⟨rfl, hb⟩; replace hS := hS.below hb; clear hb t0 t1; have rH := Row.new X3 30 [.int .i64 a, .int .i64 b, .int .i64 d]; have hbn := below_alloc' X3 (.cells #[.int .i64 a, .int .i64 b, .int .i64 d] 30); replace hS := hS.below hbn; clear hbn))
  generalize X3.alloc (.cells #[.int .i64 a, .int .i64 b, .int .i64 d] 30) = W7 at *
  generalize X3.heap.size = GH at *
  obtain ⟨t0, t1⟩ := hS.cells
  have k0 := rH.cell 0
  have k1 := rH.cell 1
  have k2 := rH.cell 2
  simp only [List.getElem?_cons_zero, List.getElem?_cons_succ] at k0 k1 k2
  go_wp2_with (first
    | (refine wpList_load_at (by kernel_rfl) 30 (.tmp 26) rfl GH 0 [.int .i64 a, .int .i64 b, .int .i64 d] (by kernel_rfl) (range_rowF rH) Tryz.underlying30 rfl infoHome ?_)
    | (refine wpList_build_at (by kernel_rfl) 38 _ rfl (homeF (a, b, d)).cells.toArray (by kernel_rfl) ?_)
    | (refine wpList_store_row rfl 38 _ _ rfl (w.heap.size + 1) (homeF (a, b, d)).cells.toArray rfl rfl 38 zeroF.cells.toArray hS.r1 SF.out.1 SF.out.2.1 SF.out.2.2 ?_; replace hS := hS.setX ((homeF (a, b, d))); generalize World.setRow _ (w.heap.size + 1) (homeF (a, b, d)).cells.toArray = WS at *))
  exact bodyPost_ret (ret_rnext _ _ _ _ _ HL.out rfl rfl hS.r1) rfl ⟨rfl, hS.bel⟩
set_option maxRecDepth 100000 in
set_option maxHeartbeats 8000000 in
theorem rnext_home2 (l : List Lx) (n : Int) (A : Option Addr) (c : Nat) (keys : List Int) (Ak : Option Addr) (ck : Nat) (s : Int) (en : List En) (ev : Value) (people office al day time r : Int) (w : World) (hl : SlX w w.heap.size (.slice A l.length c) l) (hk : SlI w w.heap.size (.slice Ak keys.length ck) keys) (he : SlE w w.heap.size ev en) (hcap : capX l) (h0 : errR l n keys s people office = 0) (hc0 : chkK l keys s people office = 0) (q : Int) (hf : findV s people office al = (q, true)) (a b d : Int) (hw : whereH en q day time = (a, b, d)) (hE : openE en q day time = 0) (h4 : a = 1) (h5 : d = office) :
    Calls Tryz.prog 12 #[ttV n (.slice A l.length c), .slice Ak keys.length ck, .int .i64 s, ev, .int .i64 people, .int .i64 office, .int .i64 al, .int .i64 day, .int .i64 time, .int .i64 r] w
      fun e w' => e = .returned (fwV (homeF (a, b, d)) 0) ∧ Below w.heap.size w w' := by
  have her := fun (W : World) (hb : Below w.heap.size w W) => rerror_any l n (.slice A l.length c) keys (.slice Ak keys.length ck) s people office W (hl.below hb) ((hk.below hb).mono hb.size) hcap
  rw [h0] at her
  have ER := Lib.hid her
  clear her
  have hck := (chkK_0 hc0).2.2.1
  have hfi := fun (W : World) => rFind_any s people office al W
  rw [hf, hck] at hfi
  have FI := Lib.hid hfi
  clear hfi hck
  have hwh : ∀ (W : World), Below w.heap.size w W → Calls Tryz.prog 45 #[ev, .int .i64 q, .int .i64 day, .int .i64 time] W fun e w' => e = .returned (.tuple #[.agg #[.int .i64 a, .int .i64 b, .int .i64 d], .int .i64 0]) ∧ Below W.heap.size W w' := fun W hb => by
    have := r34where_any en ev q day time W ((he.below hb).mono hb.size)
    rw [hw, hE] at this
    exact this
  have WH := Lib.hid hwh
  clear hwh
  have hsf := stF (x := homeF (a, b, d)) rfl
  have hfl := Fw.len (x := homeF (a, b, d)) rfl
  have SF := Lib.hid hsf
  have HL := Lib.hid hfl
  clear hsf hfl
  subst h4 h5
  clear hl hk he hcap h0 hc0 hf hw hE
  go_enter Tryz.func12, Tryz.ntmps12
  go_upto_region 1 with fail
  have hS := NS.start w n (.slice A l.length c)
  obtain ⟨W, hW⟩ : ∃ W, (w.alloc (.cells #[.int .i64 n, .slice A l.length c] 24)).alloc (.cells zeroF.cells.toArray 38) = W := ⟨_, rfl⟩
  rw [hW] at hS
  refine (show _ = W from hW) ▸ ?_
  clear hW
  obtain ⟨t0, t1⟩ := hS.cells
  go_upto_region 8 with (first
    | (go_at_call 44; (with_reducible refine (ER.out _ hS.bel).mono ?_); rintro e X1 ⟨rfl, hb⟩; replace hS := hS.below hb; clear hb t0 t1; obtain ⟨t0, t1⟩ := hS.cells)
    | (go_at_call 29; (with_reducible refine (FI.out _).mono ?_); rintro e X2 ⟨rfl, hb⟩; replace hS := hS.below hb; clear hb t0 t1; obtain ⟨t0, t1⟩ := hS.cells)
    | (go_at_call 45; (with_reducible refine (WH.out _ hS.bel).mono ?_); rintro e X3 ⟨rfl, hb⟩; replace hS := hS.below hb; clear hb t0 t1; have rH := Row.new X3 30 [.int .i64 1, .int .i64 b, .int .i64 d]; have hbn := below_alloc' X3 (.cells #[.int .i64 1, .int .i64 b, .int .i64 d] 30); replace hS := hS.below hbn; clear hbn))
  generalize X3.alloc (.cells #[.int .i64 1, .int .i64 b, .int .i64 d] 30) = W7 at *
  generalize X3.heap.size = GH at *
  obtain ⟨t0, t1⟩ := hS.cells
  have k0 := rH.cell 0
  have k1 := rH.cell 1
  have k2 := rH.cell 2
  simp only [List.getElem?_cons_zero, List.getElem?_cons_succ] at k0 k1 k2
  go_wp2_with (first
    | (refine wpList_load_at (by kernel_rfl) 30 (.tmp 26) rfl GH 0 [.int .i64 1, .int .i64 b, .int .i64 d] (by kernel_rfl) (range_rowF rH) Tryz.underlying30 rfl infoHome ?_)
    | (refine wpList_build_at (by kernel_rfl) 38 _ rfl (homeF (1, b, d)).cells.toArray (by kernel_rfl) ?_)
    | (refine wpList_store_row rfl 38 _ _ rfl (w.heap.size + 1) (homeF (1, b, d)).cells.toArray rfl rfl 38 zeroF.cells.toArray hS.r1 SF.out.1 SF.out.2.1 SF.out.2.2 ?_; replace hS := hS.setX ((homeF (1, b, d))); generalize World.setRow _ (w.heap.size + 1) (homeF (1, b, d)).cells.toArray = WS at *))
  exact bodyPost_ret (ret_rnext _ _ _ _ _ HL.out rfl rfl hS.r1) rfl ⟨rfl, hS.bel⟩
set_option maxRecDepth 100000 in
set_option maxHeartbeats 8000000 in
theorem rnext_hold (l : List Lx) (n : Int) (A : Option Addr) (c : Nat) (keys : List Int) (Ak : Option Addr) (ck : Nat) (s : Int) (en : List En) (ev : Value) (people office al day time r : Int) (w : World) (hl : SlX w w.heap.size (.slice A l.length c) l) (hk : SlI w w.heap.size (.slice Ak keys.length ck) keys) (he : SlE w w.heap.size ev en) (hcap : capX l) (h0 : errR l n keys s people office = 0) (hc0 : chkK l keys s people office = 0) (q : Int) (hf : findV s people office al = (q, true)) (b d : Int) (hw : whereH en q day time = (1, b, d)) (hE : openE en q day time = 0) (h5 : d ≠ office) (hi : idxO l office d = none) :
    Calls Tryz.prog 12 #[ttV n (.slice A l.length c), .slice Ak keys.length ck, .int .i64 s, ev, .int .i64 people, .int .i64 office, .int .i64 al, .int .i64 day, .int .i64 time, .int .i64 r] w
      fun e w' => e = .returned (fwV (homeF (2, b, 0)) 0) ∧ Below w.heap.size w w' := by
  have her := fun (W : World) (hb : Below w.heap.size w W) => rerror_any l n (.slice A l.length c) keys (.slice Ak keys.length ck) s people office W (hl.below hb) ((hk.below hb).mono hb.size) hcap
  rw [h0] at her
  have ER := Lib.hid her
  clear her
  have hck := (chkK_0 hc0).2.2.1
  have hfi := fun (W : World) => rFind_any s people office al W
  rw [hf, hck] at hfi
  have FI := Lib.hid hfi
  clear hfi hck
  have hwh : ∀ (W : World), Below w.heap.size w W → Calls Tryz.prog 45 #[ev, .int .i64 q, .int .i64 day, .int .i64 time] W fun e w' => e = .returned (.tuple #[.agg #[.int .i64 1, .int .i64 b, .int .i64 d], .int .i64 0]) ∧ Below W.heap.size W w' := fun W hb => by
    have := r34where_any en ev q day time W ((he.below hb).mono hb.size)
    rw [hw, hE] at this
    exact this
  have WH := Lib.hid hwh
  clear hwh
  have ht0 : ttE l n = 0 := Classical.byContradiction fun hne => by unfold errR at h0; rw [if_pos hne] at h0; exact hne h0
  have hli := fun (W : World) (hb : Below w.heap.size w W) => rline_any l n (.slice A l.length c) office d W (hl.below hb) (ttE_len ht0)
  rw [hi] at hli
  simp only [optI] at hli
  have LI := Lib.hid hli
  clear hli
  have hsf := stF (x := homeF (2, b, 0)) rfl
  have hfl := Fw.len (x := homeF (2, b, 0)) rfl
  have SF := Lib.hid hsf
  have HL := Lib.hid hfl
  clear hsf hfl
  have z2 : (d == office) = false := beq_eq_false_iff_ne.2 h5
  clear hl hk he hcap h0 hc0 hf hw hE h5 hi ht0
  go_enter Tryz.func12, Tryz.ntmps12
  go_upto_region 1 with fail
  have hS := NS.start w n (.slice A l.length c)
  obtain ⟨W, hW⟩ : ∃ W, (w.alloc (.cells #[.int .i64 n, .slice A l.length c] 24)).alloc (.cells zeroF.cells.toArray 38) = W := ⟨_, rfl⟩
  rw [hW] at hS
  refine (show _ = W from hW) ▸ ?_
  clear hW
  obtain ⟨t0, t1⟩ := hS.cells
  go_upto_region 8 with (first
    | (go_at_call 44; (with_reducible refine (ER.out _ hS.bel).mono ?_); rintro e X1 ⟨rfl, hb⟩; replace hS := hS.below hb; clear hb t0 t1; obtain ⟨t0, t1⟩ := hS.cells)
    | (go_at_call 29; (with_reducible refine (FI.out _).mono ?_); rintro e X2 ⟨rfl, hb⟩; replace hS := hS.below hb; clear hb t0 t1; obtain ⟨t0, t1⟩ := hS.cells)
    | (go_at_call 45; (with_reducible refine (WH.out _ hS.bel).mono ?_); rintro e X3 ⟨rfl, hb⟩; replace hS := hS.below hb; clear hb t0 t1; have rH := Row.new X3 30 [.int .i64 1, .int .i64 b, .int .i64 d]; have hbn := below_alloc' X3 (.cells #[.int .i64 1, .int .i64 b, .int .i64 d] 30); replace hS := hS.below hbn; clear hbn))
  generalize X3.alloc (.cells #[.int .i64 1, .int .i64 b, .int .i64 d] 30) = W7 at *
  generalize X3.heap.size = GH at *
  obtain ⟨t0, t1⟩ := hS.cells
  have k0 := rH.cell 0
  have k1 := rH.cell 1
  have k2 := rH.cell 2
  simp only [List.getElem?_cons_zero, List.getElem?_cons_succ] at k0 k1 k2
  go_wp2_with (first
    | (go_at_call 46; (with_reducible refine (LI.out _ hS.bel).mono ?_); rintro e X4 ⟨rfl, hb⟩; replace hS := hS.below hb; replace rH := rH.below hb rH.lt; clear hb t0 t1 k0 k1 k2; obtain ⟨t0, t1⟩ := hS.cells; have k0 := rH.cell 0; have k1 := rH.cell 1; have k2 := rH.cell 2; simp only [List.getElem?_cons_zero, List.getElem?_cons_succ] at k0 k1 k2)
    | (refine wpList_load_at (by kernel_rfl) 30 (.tmp 26) rfl GH 0 [.int .i64 1, .int .i64 b, .int .i64 d] (by kernel_rfl) (range_rowF rH) Tryz.underlying30 rfl infoHome ?_)
    | (refine wpList_build_at (by kernel_rfl) 38 _ rfl (homeF (2, b, 0)).cells.toArray (by kernel_rfl) ?_)
    | (refine wpList_store_row rfl 38 _ _ rfl (w.heap.size + 1) (homeF (2, b, 0)).cells.toArray rfl rfl 38 zeroF.cells.toArray hS.r1 SF.out.1 SF.out.2.1 SF.out.2.2 ?_; replace hS := hS.setX ((homeF (2, b, 0))); generalize World.setRow _ (w.heap.size + 1) (homeF (2, b, 0)).cells.toArray = WS at *))
  exact bodyPost_ret (ret_rnext _ _ _ _ _ HL.out rfl rfl hS.r1) rfl ⟨rfl, hS.bel⟩
set_option maxRecDepth 100000 in
set_option maxHeartbeats 8000000 in
theorem rnext_full (l : List Lx) (n : Int) (A : Option Addr) (c : Nat) (keys : List Int) (Ak : Option Addr) (ck : Nat) (s : Int) (en : List En) (ev : Value) (people office al day time r : Int) (w : World) (hl : SlX w w.heap.size (.slice A l.length c) l) (hk : SlI w w.heap.size (.slice Ak keys.length ck) keys) (he : SlE w w.heap.size ev en) (hcap : capX l) (h0 : errR l n keys s people office = 0) (hc0 : chkK l keys s people office = 0) (q : Int) (hf : findV s people office al = (q, true)) (b d : Int) (hw : whereH en q day time = (1, b, d)) (hE : openE en q day time = 0) (h5 : d ≠ office) (k : Nat) (hi : idxO l office d = some k) :
    Calls Tryz.prog 12 #[ttV n (.slice A l.length c), .slice Ak keys.length ck, .int .i64 s, ev, .int .i64 people, .int .i64 office, .int .i64 al, .int .i64 day, .int .i64 time, .int .i64 r] w
      fun e w' => e = .returned (fwV (fullF (1, b, d) k (keys.getD k default) (aliasA s b d) r) 0) ∧ Below w.heap.size w w' := by
  have her := fun (W : World) (hb : Below w.heap.size w W) => rerror_any l n (.slice A l.length c) keys (.slice Ak keys.length ck) s people office W (hl.below hb) ((hk.below hb).mono hb.size) hcap
  rw [h0] at her
  have ER := Lib.hid her
  clear her
  have hck := (chkK_0 hc0).2.2.1
  have hfi := fun (W : World) => rFind_any s people office al W
  rw [hf, hck] at hfi
  have FI := Lib.hid hfi
  clear hfi hck
  have hwh : ∀ (W : World), Below w.heap.size w W → Calls Tryz.prog 45 #[ev, .int .i64 q, .int .i64 day, .int .i64 time] W fun e w' => e = .returned (.tuple #[.agg #[.int .i64 1, .int .i64 b, .int .i64 d], .int .i64 0]) ∧ Below W.heap.size W w' := fun W hb => by
    have := r34where_any en ev q day time W ((he.below hb).mono hb.size)
    rw [hw, hE] at this
    exact this
  have WH := Lib.hid hwh
  clear hwh
  have ht0 : ttE l n = 0 := Classical.byContradiction fun hne => by unfold errR at h0; rw [if_pos hne] at h0; exact hne h0
  have hli := fun (W : World) (hb : Below w.heap.size w W) => rline_any l n (.slice A l.length c) office d W (hl.below hb) (ttE_len ht0)
  rw [hi] at hli
  simp only [optI] at hli
  have LI := Lib.hid hli
  clear hli
  have hbd := whereH_bd (en := en) (p := q) (day := day) (time := time) hE
  rw [hw] at hbd
  obtain ⟨hkl, hkv, _, hsec, _⟩ := chkK_0 hc0
  have hkl2 := idxO_lt hi
  have hvk := all_at hkv (show k < keys.length by omega)
  have hl64 := (ttE_0 ht0).1
  have hcke : ckE s d (idP b) = 0 := ckE_ok hsec (by unfold idP; simp only [Bool.and_eq_true, decide_eq_true_eq]; exact hbd.2.1) hbd.2.2
  have hal := fun (W : World) => rAlias_any s b d W
  rw [hcke] at hal
  have habd := aliasA_bd hcke
  have hmk := fun (W : World) => rmake_any k (keys.getD k default) (aliasA s b d) r (by omega) hvk habd W
  have hmo := one_cells (one_bv (tagN k (keys.getD k default) (makeA r) (makeB (keys.getD k default) (aliasA s b d) r))) k (keys.getD k default) (makeA r) (makeB (keys.getD k default) (aliasA s b d) r)
  have hmc : retC k (keys.getD k default) (makeA r) (makeB (keys.getD k default) (aliasA s b d) r) ((tagN k (keys.getD k default) (makeA r) (makeB (keys.getD k default) (aliasA s b d) r)).map bv) = makeC k (keys.getD k default) (aliasA s b d) r := rfl
  rw [hmc] at hmo
  have hml := makeC_len k (keys.getD k default) (aliasA s b d) r
  have hfc := fullF_cells (1, b, d) k (keys.getD k default) (aliasA s b d) r
  simp only at hfc
  obtain ⟨_, Ak', ck', hvv, hkE⟩ := id hk
  obtain ⟨kb, ko, rfl, hkb, hkE⟩ := hkE (by omega)
  cases hvv
  have hkc := CellsG.int hkE (show k < keys.length by omega)
  have hsf := stF (x := fullF (1, b, d) k (keys.getD k default) (aliasA s b d) r) (tagN_len _ _ _ _)
  have hfl := Fw.len (x := fullF (1, b, d) k (keys.getD k default) (aliasA s b d) r) (tagN_len _ _ _ _)
  have SF := Lib.hid hsf
  have HL := Lib.hid hfl
  clear hsf hfl
  obtain ⟨FF, hFF⟩ : ∃ x, fullF (1, b, d) k (keys.getD k default) (aliasA s b d) r = x := ⟨_, rfl⟩
  obtain ⟨MC, hMC⟩ : ∃ x, makeC k (keys.getD k default) (aliasA s b d) r = x := ⟨_, rfl⟩
  rw [hFF] at SF HL hfc ⊢
  rw [hMC] at hmk hmo hml hfc
  obtain ⟨key, hkey⟩ : ∃ x, keys.getD k default = x := ⟨_, rfl⟩
  obtain ⟨AV, hAV⟩ : ∃ x, aliasA s b d = x := ⟨_, rfl⟩
  rw [hkey, hAV] at hmk
  rw [hkey] at hkc
  rw [hAV] at hal
  have hinfR : (Tryz.prog.info? 36).map (·.size) = some MC.length := by rw [hml]; kernel_rfl
  have s1 : (0 : Int) ≤ (k : Int) := by omega
  have s2 : (k : Int) < (keys.length : Int) := by omega
  have s3 : decide ((k : Int) < 0) = false := decide_eq_false (by omega)
  have KC := Lib.hid (fun (W : World) (hb : Below w.heap.size w W) => (hb.cell (p := ⟨kb, ko + k, none⟩) hkb).trans hkc)
  have ALI := Lib.hid hal
  have MK := Lib.hid hmk
  have HMO := Lib.hid hmo
  have HML := Lib.hid hml
  have HFC := Lib.hid hfc
  have HIR := Lib.hid hinfR
  have z2 : (d == office) = false := beq_eq_false_iff_ne.2 h5
  clear hl hk he hcap h0 hc0 hf hw hE h5 hi ht0 hal hmk hmo hml hfc hinfR hkc hkE hkey hMC hvk habd hbd hkb hkl hkv hsec hkl2 hl64 hcke hFF hAV hmc
  go_enter Tryz.func12, Tryz.ntmps12
  go_upto_region 1 with fail
  have hS := NS.start w n (.slice A l.length c)
  obtain ⟨W, hW⟩ : ∃ W, (w.alloc (.cells #[.int .i64 n, .slice A l.length c] 24)).alloc (.cells zeroF.cells.toArray 38) = W := ⟨_, rfl⟩
  rw [hW] at hS
  refine (show _ = W from hW) ▸ ?_
  clear hW
  obtain ⟨t0, t1⟩ := hS.cells
  go_upto_region 8 with (first
    | (go_at_call 44; (with_reducible refine (ER.out _ hS.bel).mono ?_); rintro e X1 ⟨rfl, hb⟩; replace hS := hS.below hb; clear hb t0 t1; obtain ⟨t0, t1⟩ := hS.cells)
    | (go_at_call 29; (with_reducible refine (FI.out _).mono ?_); rintro e X2 ⟨rfl, hb⟩; replace hS := hS.below hb; clear hb t0 t1; obtain ⟨t0, t1⟩ := hS.cells)
    | (go_at_call 45; (with_reducible refine (WH.out _ hS.bel).mono ?_); rintro e X3 ⟨rfl, hb⟩; replace hS := hS.below hb; clear hb t0 t1; have rH := Row.new X3 30 [.int .i64 1, .int .i64 b, .int .i64 d]; have hbn := below_alloc' X3 (.cells #[.int .i64 1, .int .i64 b, .int .i64 d] 30); replace hS := hS.below hbn; clear hbn))
  generalize X3.alloc (.cells #[.int .i64 1, .int .i64 b, .int .i64 d] 30) = W7 at *
  generalize X3.heap.size = GH at *
  obtain ⟨t0, t1⟩ := hS.cells
  have k0 := rH.cell 0
  have k1 := rH.cell 1
  have k2 := rH.cell 2
  simp only [List.getElem?_cons_zero, List.getElem?_cons_succ] at k0 k1 k2
  go_wp2_with (first
    | (go_at_call 46; (with_reducible refine (LI.out _ hS.bel).mono ?_); rintro e X4 ⟨rfl, hb⟩; replace hS := hS.below hb; replace rH := rH.below hb rH.lt; clear hb t0 t1 k0 k1 k2; obtain ⟨t0, t1⟩ := hS.cells; have k0 := rH.cell 0; have k1 := rH.cell 1; have k2 := rH.cell 2; simp only [List.getElem?_cons_zero, List.getElem?_cons_succ] at k0 k1 k2)
    | (go_at_call 28; (with_reducible refine (ALI.out _).mono ?_); rintro e X5 ⟨rfl, hb⟩; replace hS := hS.below hb; replace rH := rH.below hb rH.lt; clear hb; clear t0 t1 k0 k1 k2; obtain ⟨t0, t1⟩ := hS.cells; have k0 := rH.cell 0; have k1 := rH.cell 1; have k2 := rH.cell 2; simp only [List.getElem?_cons_zero, List.getElem?_cons_succ] at k0 k1 k2; have kc := KC.out _ hS.bel)
    | (go_at_call 47; (with_reducible refine (MK.out _).mono ?_); rintro e X6 ⟨rfl, hb⟩; replace hS := hS.below hb; replace rH := rH.below hb rH.lt; clear hb kc; clear t0 t1 k0 k1 k2; obtain ⟨t0, t1⟩ := hS.cells; have k0 := rH.cell 0; have k1 := rH.cell 1; have k2 := rH.cell 2; simp only [List.getElem?_cons_zero, List.getElem?_cons_succ] at k0 k1 k2)
    | (refine wpList_newR rfl rfl _ rfl rfl _ rfl rfl MC HML.out HMO.out (by kernel_rfl) (by kernel_rfl) ?_; intro W8 rR hb; replace hS := hS.below hb; replace rH := rH.below hb rH.lt; clear hb; clear t0 t1 k0 k1 k2; obtain ⟨t0, t1⟩ := hS.cells; have k0 := rH.cell 0; have k1 := rH.cell 1; have k2 := rH.cell 2; simp only [List.getElem?_cons_zero, List.getElem?_cons_succ] at k0 k1 k2)
    | (refine wpList_load_at (by kernel_rfl) 30 (.tmp 26) rfl GH 0 [.int .i64 1, .int .i64 b, .int .i64 d] (by kernel_rfl) (range_rowF rH) Tryz.underlying30 rfl infoHome ?_)
    | (refine wpList_load_at (by kernel_rfl) 36 (.tmp 31) rfl X6.heap.size 0 MC (by kernel_rfl) (range_rowF rR) Tryz.underlying36 rfl HIR.out ?_)
    | (refine wpList_build_full (by kernel_rfl) (.tmp 113) (.tmp 114) rfl 1 b d MC HML.out (by kernel_rfl) (by kernel_rfl) ?_; rw [← HFC.out])
    | (refine wpList_store_row rfl 38 _ _ rfl (w.heap.size + 1) FF.cells.toArray rfl rfl 38 zeroF.cells.toArray hS.r1 SF.out.1 SF.out.2.1 SF.out.2.2 ?_; replace hS := hS.setX (FF); generalize World.setRow _ (w.heap.size + 1) FF.cells.toArray = WS at *))
  exact bodyPost_ret (ret_rnext _ _ _ _ _ HL.out rfl rfl hS.r1) rfl ⟨rfl, hS.bel⟩
set_option maxHeartbeats 1000000 in
theorem r36next_any (l : List Lx) (n : Int) (v : Value) (keys : List Int) (kv : Value) (s : Int) (en : List En) (ev : Value) (people office al day time r : Int) (w : World) (hl : SlX w w.heap.size v l) (hk : SlI w w.heap.size kv keys) (he : SlE w w.heap.size ev en) (hcap : capX l) :
    Calls Tryz.prog 12 #[ttV n v, kv, .int .i64 s, ev, .int .i64 people, .int .i64 office, .int .i64 al, .int .i64 day, .int .i64 time, .int .i64 r] w
      fun e w' => e = .returned (fwV (nextR l n keys s en people office al day time r).1 (nextR l n keys s en people office al day time r).2) ∧ Below w.heap.size w w' := by
  obtain ⟨A, c, rfl⟩ : ∃ A c, v = .slice A l.length c := by obtain ⟨⟨_, A, c, h, _⟩, _⟩ := hl; exact ⟨A, c, h⟩
  obtain ⟨Ak, ck, rfl⟩ : ∃ A c, kv = .slice A keys.length c := by obtain ⟨_, A, c, h, _⟩ := hk; exact ⟨A, c, h⟩
  unfold nextR
  by_cases h1 : ttE l n = 0
  · rw [if_neg (by simp [h1])]
    have he1 : errR l n keys s people office = chkK l keys s people office := by unfold errR; rw [if_neg (by simp [h1])]
    by_cases h2 : chkK l keys s people office = 0
    · rw [if_neg (by simp [h2])]
      rw [h2] at he1
      obtain ⟨q, bq⟩ : ∃ q, findV s people office al = q := ⟨_, rfl⟩
      obtain ⟨q, fb⟩ := q
      rw [bq]
      cases fb with
      | false =>
        rw [if_pos rfl]
        exact rnext_find l n A c keys Ak ck s en ev people office al day time r w hl hk he hcap he1 h2 q bq
      | true =>
        rw [if_neg (by simp)]
        simp only
        obtain ⟨h, hw⟩ : ∃ h, whereH en q day time = h := ⟨_, rfl⟩
        obtain ⟨a, b, d⟩ := h
        by_cases h3 : openE en q day time = 0
        · rw [if_neg (by simp [h3]), hw]
          unfold moreR
          by_cases h4 : a ≠ 1
          · rw [if_pos (.inl h4)]
            exact rnext_home1 l n A c keys Ak ck s en ev people office al day time r w hl hk he hcap he1 h2 q bq a b d hw h3 h4
          · have h4' : a = 1 := Classical.byContradiction h4
            by_cases h5 : d = office
            · rw [if_pos (.inr h5)]
              exact rnext_home2 l n A c keys Ak ck s en ev people office al day time r w hl hk he hcap he1 h2 q bq a b d hw h3 h4' h5
            · rw [if_neg (fun h => h.elim (fun x => h4 x) (fun x => h5 x))]
              subst h4'
              simp only
              cases hi : idxO l office d with
              | none => exact rnext_hold l n A c keys Ak ck s en ev people office al day time r w hl hk he hcap he1 h2 q bq b d hw h3 h5 hi
              | some k =>
                simp only
                have hbd := whereH_bd (en := en) (p := q) (day := day) (time := time) h3
                rw [hw] at hbd
                have hcke : ckE s d (idP b) = 0 := ckE_ok (chkK_0 h2).2.2.2.1 (by unfold idP; simp only [Bool.and_eq_true, decide_eq_true_eq]; exact hbd.2.1) hbd.2.2
                rw [if_neg (by simp [hcke])]
                exact rnext_full l n A c keys Ak ck s en ev people office al day time r w hl hk he hcap he1 h2 q bq b d hw h3 h5 k hi
        · rw [if_pos h3]
          exact rnext_where l n A c keys Ak ck s en ev people office al day time r w hl hk he hcap he1 h2 q bq a b d hw _ rfl h3
    · rw [if_pos h2]
      exact rnext_err l n A c keys Ak ck s en ev people office al day time r w hl hk he hcap _ he1 h2
  · rw [if_pos h1]
    have he1 : errR l n keys s people office = ttE l n := by unfold errR; rw [if_pos h1]
    exact rnext_err l n A c keys Ak ck s en ev people office al day time r w hl hk he hcap _ he1 h1
end Go.Proofs.YthckledagggoiaaGreatDoor
