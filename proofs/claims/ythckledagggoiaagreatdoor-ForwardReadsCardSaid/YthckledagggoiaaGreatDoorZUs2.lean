import Derived.Test.YthckledagggoiaaGreatDoorZUs1
import Derived.OwnWalkIn
set_option linter.unusedSimpArgs false
set_option linter.unusedVariables false
namespace Go.Proofs.YthckledagggoiaaGreatDoor
open Go.RowKit Go.Shelf Fk Sha
attribute [local go_sem] Oper.semAt_some
/-! onetime.Use. -/
theorem wpListIn_load_at {F : Fence} {n : Nat} {P : Program} {ops : Array Oper} {rest : List Oper} {o : Oper} {a : Act} {w : World} {Q : Exit → Act → World → Prop} (hg : o.guard = none) (ty : TypeId) (x : Operand) (ho : o.op = .load ty x) (b off : Nat) (cs : List Value) (hx : a.eval x = .pointer (some ⟨b, off, none⟩))
    (hc : w.rangeAt b off cs) {d : TypeDesc} (hu : P.underlying ty = some d) (hd : d.isRow = true) (hi : (P.info? ty).map (·.size) = some cs.length) (h : wpListIn F n P ops Q rest (a.put o.dst (.agg cs.toArray)) w) : wpListIn F n P ops Q (o :: rest) a w := by
  refine wpListIn_plain hg fun K hK => ?_
  have hr := run_loadAt_mid w b off ty cs d hc hu hd hi
  unfold Oper.wpIn
  refine ⟨by simp [Oper.about, ho], ?_⟩
  rw [Oper.semAt_plain F _ _ (by rw [ho]; intro c hc'; cases hc')]
  simp [execOp, ho, hx, hr, Result.andThen]
  exact hK _ _ h
structure US (w W : World) (MC : List Value) (p q r0 r1 r2 : Int) (S : List Value) : Prop where
  bel : Below w.heap.size w W
  r3 : Row W w.heap.size 36 MC
  r4 : Row W (w.heap.size + 1) 59 [.int .i64 p, .int .i64 q]
  r5 : Row W (w.heap.size + 1 + 1) 60 [.int .i64 r0, .int .i64 r1, .int .i64 r2]
  r6 : Row W (w.heap.size + 1 + 1 + 1) 70 S
theorem US.below {w W W' : World} {MC S : List Value} {p q r0 r1 r2 : Int} (h : US w W MC p q r0 r1 r2 S) (hb : Below W.heap.size W W') : US w W' MC p q r0 r1 r2 S :=
  ⟨h.bel.trans (hb.mono h.bel.size), h.r3.below hb h.r3.lt, h.r4.below hb h.r4.lt, h.r5.below hb h.r5.lt, h.r6.below hb h.r6.lt⟩
theorem US.kept {w W W' : World} {MC S : List Value} {p q r0 r1 r2 : Int} {row : Option Nat} (h : US w W MC p q r0 r1 r2 S) (hg : W.grownBy W' row) (hr : ∀ r, row = some r → w.heap.size + 4 ≤ r) : US w W' MC p q r0 r1 r2 S := by
  have k : ∀ b, b < w.heap.size + 4 → b < W.heap.size → W'.heap[b]? = W.heap[b]? := fun b hb hw => hg.block b hw (fun e => by have := hr b e.symm; omega)
  exact ⟨h.bel.grown hg h.bel.size (fun r e => by have := hr r e; omega), h.r3.keep (k _ (by omega) h.r3.lt), h.r4.keep (k _ (by omega) h.r4.lt), h.r5.keep (k _ (by omega) h.r5.lt), h.r6.keep (k _ (by omega) h.r6.lt)⟩
theorem US.set4 {w W : World} {MC S : List Value} {p q r0 r1 r2 : Int} (h : US w W MC p q r0 r1 r2 S) (x : Int) : US w (W.setCell ⟨w.heap.size + 1, 0, none⟩ (.int .i64 x)) MC x q r0 r1 r2 S ∧ US w (W.setCell ⟨w.heap.size + 1, 1, none⟩ (.int .i64 x)) MC p x r0 r1 r2 S :=
  ⟨⟨h.bel.setCell (p := ⟨w.heap.size + 1, 0, none⟩) (by simp) _, h.r3.other (by simp) _, h.r4.store 0 _, h.r5.other (by simp only []; omega) _, h.r6.other (by simp only []; omega) _⟩,
   ⟨h.bel.setCell (p := ⟨w.heap.size + 1, 1, none⟩) (by simp) _, h.r3.other (by simp) _, h.r4.store 1 _, h.r5.other (by simp only []; omega) _, h.r6.other (by simp only []; omega) _⟩⟩
theorem US.two {w W : World} {MC S : List Value} {p q r0 r1 r2 : Int} (h : US w W MC p q r0 r1 r2 S) : (W.cell? ⟨w.heap.size + 1, 0, none⟩ = some (.int .i64 p) ∧ W.cell? ⟨w.heap.size + 1, 1, none⟩ = some (.int .i64 q)) ∧ W.frozen? ⟨w.heap.size + 1, 0, none⟩ = false ∧ W.frozen? ⟨w.heap.size + 1, 1, none⟩ = false :=
  ⟨⟨h.r4.cell 0, h.r4.cell 1⟩, h.r4.frozen 0, h.r4.frozen 1⟩
abbrev zeroS : List Value := [.int .i64 0, .int .i64 0, .int .i64 0, .int .i64 0, .int .i64 0, .int .i64 0]
theorem US.start (w : World) (MC : List Value) (p q r0 r1 r2 : Int) : US w ((((w.alloc (.cells MC.toArray 36)).alloc (.cells #[.int .i64 p, .int .i64 q] 59)).alloc (.cells #[.int .i64 r0, .int .i64 r1, .int .i64 r2] 60)).alloc (.cells #[.int .i64 0, .int .i64 0, .int .i64 0, .int .i64 0, .int .i64 0, .int .i64 0] 70)) MC p q r0 r1 r2 zeroS := by
  have a0 := Row.new w 36 MC
  have B0 := below_alloc' w (.cells MC.toArray 36)
  have s0 : (w.alloc (.cells MC.toArray 36)).heap.size = w.heap.size + 1 := by simp
  generalize w.alloc (.cells MC.toArray 36) = W0 at *
  have a1 := Row.new W0 59 [.int .i64 p, .int .i64 q]
  have a0 := a0.alloc (.cells #[.int .i64 p, .int .i64 q] 59)
  have B1 := B0.alloc B0.size (.cells #[.int .i64 p, .int .i64 q] 59)
  have s1 : (W0.alloc (.cells #[.int .i64 p, .int .i64 q] 59)).heap.size = w.heap.size + 1 + 1 := by simp [s0]
  rw [s0] at a1
  generalize W0.alloc (.cells #[.int .i64 p, .int .i64 q] 59) = W1 at *
  have a2 := Row.new W1 60 [.int .i64 r0, .int .i64 r1, .int .i64 r2]
  have a0 := a0.alloc (.cells #[.int .i64 r0, .int .i64 r1, .int .i64 r2] 60)
  have a1 := a1.alloc (.cells #[.int .i64 r0, .int .i64 r1, .int .i64 r2] 60)
  have B2 := B1.alloc B1.size (.cells #[.int .i64 r0, .int .i64 r1, .int .i64 r2] 60)
  have s2 : (W1.alloc (.cells #[.int .i64 r0, .int .i64 r1, .int .i64 r2] 60)).heap.size = w.heap.size + 1 + 1 + 1 := by simp [s1]
  rw [s1] at a2
  generalize W1.alloc (.cells #[.int .i64 r0, .int .i64 r1, .int .i64 r2] 60) = W2 at *
  have a3 := Row.new W2 70 zeroS
  rw [s2] at a3
  exact ⟨B2.alloc B2.size _, a0.alloc _, a1.alloc _, a2.alloc _, a3⟩
def sTo (s : Se) (k : Nat) : List Value := [.int .i64 (if 0 < k then s.x.a else 0), .int .i64 (if 0 < k then s.x.b else 0), .int .i64 (if 1 < k then s.y.a else 0), .int .i64 (if 1 < k then s.y.b else 0), .int .i64 (if 2 < k then s.z.a else 0), .int .i64 (if 2 < k then s.z.b else 0)]
theorem US.set6 {w W : World} {MC : List Value} {p q r0 r1 r2 : Int} {SS : Se} : (US w W MC p q r0 r1 r2 (sTo SS 0) → US w ((W.setCell ⟨w.heap.size + 1 + 1 + 1, 0, none⟩ (.int .i64 SS.x.a)).setCell ⟨w.heap.size + 1 + 1 + 1, 1, none⟩ (.int .i64 SS.x.b)) MC p q r0 r1 r2 (sTo SS 1)) ∧
    (US w W MC p q r0 r1 r2 (sTo SS 1) → US w ((W.setCell ⟨w.heap.size + 1 + 1 + 1, 2, none⟩ (.int .i64 SS.y.a)).setCell ⟨w.heap.size + 1 + 1 + 1, 3, none⟩ (.int .i64 SS.y.b)) MC p q r0 r1 r2 (sTo SS 2)) ∧
    (US w W MC p q r0 r1 r2 (sTo SS 2) → US w ((W.setCell ⟨w.heap.size + 1 + 1 + 1, 4, none⟩ (.int .i64 SS.z.a)).setCell ⟨w.heap.size + 1 + 1 + 1, 5, none⟩ (.int .i64 SS.z.b)) MC p q r0 r1 r2 (sTo SS 3)) := by
  have key : ∀ {S : List Value} (i k : Nat) (u v : Value), US w W MC p q r0 r1 r2 S → US w ((W.setCell ⟨w.heap.size + 1 + 1 + 1, i, none⟩ u).setCell ⟨w.heap.size + 1 + 1 + 1, k, none⟩ v) MC p q r0 r1 r2 ((S.set i u).set k v) := fun i k u v h =>
    ⟨(h.bel.setCell (p := ⟨w.heap.size + 1 + 1 + 1, i, none⟩) (by simp only []; omega) _).setCell (p := ⟨w.heap.size + 1 + 1 + 1, k, none⟩) (by simp only []; omega) _, (h.r3.other (by simp only []; omega) _).other (by simp only []; omega) _, (h.r4.other (by simp only []; omega) _).other (by simp only []; omega) _, (h.r5.other (by simp only []; omega) _).other (by simp only []; omega) _, (h.r6.store i u).store k v⟩
  exact ⟨key 0 1 _ _, key 2 3 _ _, key 4 5 _ _⟩
def useS (key a b p q r0 r1 r2 : Int) : Se := ⟨⟨timesC a 4 r0, timesC b key r0⟩, ⟨timesC 1 4 r1, timesC p key r1⟩, ⟨timesC 1 4 r2, timesC q key r2⟩⟩
theorem ret_use (tmps : Array Value) (W : World) (g : Nat) (cs : List Value) (E : Int) (hl : cs.length = 6) (h6 : tmps[6]?.getD undef = .pointer (some ⟨g, 0, none⟩)) (h7 : tmps[7]?.getD undef = .int .i64 E) (hr : Row W g 70 cs) :
    (results Tryz.f23 tmps).run Tryz.prog W = .ok (.tuple #[.agg cs.toArray, .int .i64 E]) W := by
  have hinf : (Tryz.prog.info? 70).map (·.size) = some 6 := by kernel_rfl
  have h := run_loadVar_row (P := Tryz.prog) W g 70 70 cs.toArray (0, 0) _ hr Tryz.underlying70 rfl (by rw [hinf]; simp [hl])
  simp [results, Tryz.f23, h6, h7, asAddr, h]
theorem use_end {w W : World} {MC : List Value} {p q r0 r1 r2 : Int} {SS : Se} {Bd : Nat} {tmps : Array Value} (hI : US w W MC p q r0 r1 r2 SS.cells) (hlb : w.heap.size + 1 + 1 + 1 < Bd) (hD : W.heap[Bd]? = some (.deferred (some [])))
    (h6 : tmps[6]?.getD undef = .pointer (some ⟨w.heap.size + 1 + 1 + 1, 0, none⟩)) (h7 : tmps[7]?.getD undef = .int .i64 0) :
    bodyPostM Fence.wide 3 Tryz.prog Tryz.f23 (fun e w' => e = .returned (.tuple #[SS.val, .int .i64 0]) ∧ Below w.heap.size w w') .ret { tmps := tmps, defers := [{ target := .collected Bd, args := #[] }] }
      ((((((W.setCell ⟨w.heap.size + 1 + 1 + 1, 0, none⟩ (.int .i64 SS.x.a)).setCell ⟨w.heap.size + 1 + 1 + 1, 1, none⟩ (.int .i64 SS.x.b)).setCell ⟨w.heap.size + 1 + 1 + 1, 2, none⟩ (.int .i64 SS.y.a)).setCell ⟨w.heap.size + 1 + 1 + 1, 3, none⟩ (.int .i64 SS.y.b)).setCell ⟨w.heap.size + 1 + 1 + 1, 4, none⟩ (.int .i64 SS.z.a)).setCell ⟨w.heap.size + 1 + 1 + 1, 5, none⟩ (.int .i64 SS.z.b)) := by
  have k : ∀ (X : World) (i : Nat) (u : Value), (Below w.heap.size w X ∧ X.heap[Bd]? = some (.deferred (some []))) → (Below w.heap.size w (X.setCell ⟨w.heap.size + 1 + 1 + 1, i, none⟩ u) ∧ (X.setCell ⟨w.heap.size + 1 + 1 + 1, i, none⟩ u).heap[Bd]? = some (.deferred (some []))) := fun X i u h =>
    ⟨h.1.setCell (p := ⟨w.heap.size + 1 + 1 + 1, i, none⟩) (by simp only []; omega) _, (Below.heap_setCell _ _ _ _ (by simp only []; omega)).trans h.2⟩
  have hr := (((((hI.r6.store 0 (.int .i64 SS.x.a)).store 1 (.int .i64 SS.x.b)).store 2 (.int .i64 SS.y.a)).store 3 (.int .i64 SS.y.b)).store 4 (.int .i64 SS.z.a)).store 5 (.int .i64 SS.z.b)
  obtain ⟨hB, hD2⟩ := k _ 5 (.int .i64 SS.z.b) (k _ 4 (.int .i64 SS.z.a) (k _ 3 (.int .i64 SS.y.b) (k _ 2 (.int .i64 SS.y.a) (k _ 1 (.int .i64 SS.x.b) (k _ 0 (.int .i64 SS.x.a) ⟨hI.bel, hD⟩)))))
  refine ⟨by simp, .inl ⟨_, _, rfl, run_takeDeferred hD2, ?_⟩⟩
  exact ⟨.tuple #[SS.val, .int .i64 0], ret_use _ _ (w.heap.size + 1 + 1 + 1) SS.cells 0 rfl h6 h7 (hr.keep (World.putObj_heap_other (by omega))), rfl, hB.grown (grownBy_putObj' _ Bd (.deferred none)) hB.size (fun r e => by have := Option.some.inj e; omega)⟩
set_option maxRecDepth 100000 in
set_option maxHeartbeats 4000000 in
theorem ouse_ok (line key al r p q r0 r1 r2 : Int) (hln : 0 ≤ line ∧ line < 64) (hk : vld key = true) (ha : 1 ≤ al ∧ al ≤ 1073741789) (hp : elE p = 0) (hq : elE q = 0) (w : World) (hT : TabOK w) :
    Calls Tryz.prog 23 #[.agg (makeC line key al r).toArray, .agg #[.int .i64 p, .int .i64 q], .agg #[.int .i64 r0, .int .i64 r1, .int .i64 r2]] w
      fun e w' => e = .returned (.tuple #[(useS key (makeA r) (makeB key al r) (elC p) (elC q) r0 r1 r2).val, .int .i64 0]) ∧ Below w.heap.size w w' := by
  have c1 := fun (W : World) (hb : Below w.heap.size w W) => ocheck_make line key al r hln hk ha W (hT.below hb)
  have c2 := fun W => element_any p W
  have c3 := fun W => element_any q W
  rw [hp] at c2
  rw [hq] at c3
  have hml := makeC_len line key al r
  have c4 := fun W => plain_any (makeC line key al r) hml (elC p) (elC q) W
  obtain ⟨ep, hep⟩ : ∃ y, elC p = y := ⟨_, rfl⟩
  obtain ⟨eq, heq⟩ : ∃ y, elC q = y := ⟨_, rfl⟩
  rw [hep] at c2
  rw [heq] at c3
  rw [hep, heq] at c4
  rw [hep, heq]
  have hmc : makeC line key al r = retC line key (makeA r) (makeB key al r) ((tagN line key (makeA r) (makeB key al r)).map bv) := rfl
  obtain ⟨MA, hMA⟩ : ∃ y, makeA r = y := ⟨_, rfl⟩
  obtain ⟨MB, hMB⟩ : ∃ y, makeB key al r = y := ⟨_, rfl⟩
  obtain ⟨DD, hDD⟩ : ∃ y, (tagN line key (makeA r) (makeB key al r)).map bv = y := ⟨_, rfl⟩
  rw [hDD, hMA, hMB] at hmc
  rw [hMA, hMB]
  obtain ⟨MC, hMC⟩ : ∃ y, makeC line key al r = y := ⟨_, rfl⟩
  rw [hMC] at c1 c4 hml hmc ⊢
  obtain ⟨SS, hSS⟩ : ∃ y, useS key MA MB ep eq r0 r1 r2 = y := ⟨_, rfl⟩
  rw [hSS]
  have HSS := Lib.hid hSS
  clear hSS
  have hinf : (Tryz.prog.info? 36).map (·.size) = some MC.length := by rw [hml]; kernel_rfl
  have hi0 : ∀ w : World, (Instr.index 59 (.agg #[.int .i64 p, .int .i64 q]) (.int .i64 0)).run Tryz.prog w = .ok (.int .i64 p) w := fun w => by kernel_rfl
  have hi1 : ∀ w : World, (Instr.index 59 (.agg #[.int .i64 p, .int .i64 q]) (.int .i64 1)).run Tryz.prog w = .ok (.int .i64 q) w := fun w => by kernel_rfl
  have hS := US.start w MC p q r0 r1 r2
  have hs0 := fun X => seal_any key MA MB r0 X
  have hs1 := fun X => seal_any key 1 ep r1 X
  have hs2 := fun X => seal_any key 1 eq r2 X
  rw [show timesC MA 4 r0 = SS.x.a from by rw [← HSS.out]; simp only [useS], show timesC MB key r0 = SS.x.b from by rw [← HSS.out]; simp only [useS]] at hs0
  rw [show timesC 1 4 r1 = SS.y.a from by rw [← HSS.out]; simp only [useS], show timesC ep key r1 = SS.y.b from by rw [← HSS.out]; simp only [useS]] at hs1
  rw [show timesC 1 4 r2 = SS.z.a from by rw [← HSS.out]; simp only [useS], show timesC eq key r2 = SS.z.b from by rw [← HSS.out]; simp only [useS]] at hs2
  have HS0 := Lib.hid hs0
  have HS1 := Lib.hid hs1
  have HS2 := Lib.hid hs2
  clear hs0 hs1 hs2 HSS
  have C1 := Lib.hid c1
  have C2 := Lib.hid c2
  have C3 := Lib.hid c3
  have C4 := Lib.hid c4
  have HI := Lib.hid hinf
  have HMC := Lib.hid hmc
  clear c1 c2 c3 c4 hp hq hep heq hMA hMB hDD hMC hml hinf hmc hk ha hln hT
  refine (callsIn_wide (n := 3)).1 ?_
  refine callsIn_of_wp_marks Tryz.func23 rfl trivial ?_ rfl
  simp only [Tryz.ntmps23, List.size_toArray, List.length_cons, List.length_nil, Nat.reduceAdd, Nat.reduceSub, Array.replicate_succ, Array.replicate_zero, List.push_toArray, List.append_toArray, List.nil_append, List.cons_append]
  gi_wp2_with (first
    | (refine wpListIn_load_at rfl 36 (.tmp 3) rfl w.heap.size 0 MC (by kernel_rfl) (range_rowF hS.r3) Tryz.underlying36 rfl HI.out ?_)
    | (refine ⟨trivial, ?_⟩; gi_at_call 22; refine (callsIn_wide.2 (C1.out _ hS.bel)).mono ?_; rintro e w1 ⟨rfl, hb⟩; replace hS := hS.below hb; clear hb; obtain ⟨⟨n0, n1⟩, z0, z1⟩ := hS.two))
  clear n0 n1 z0 z1
  gi_loopw [21] (fun i wr => ∃ k : Nat, i = .int .i64 k ∧ k ≤ 2 ∧ US w wr MC (if 0 < k then ep else p) (if 1 < k then eq else q) r0 r1 r2 zeroS) (fun i _ => 2 - (intOf i).toNat)
  case atStart => exact ⟨0, rfl, by omega, hS⟩
  case round =>
  clear hS
  obtain ⟨k, rfl, hk, hS⟩ := hrel
  rcases (show k = 0 ∨ k = 1 ∨ k = 2 by omega) with rfl | rfl | rfl
  · replace hS : US w wr MC p q r0 r1 r2 zeroS := hS
    obtain ⟨⟨n0, n1⟩, z0, z1⟩ := hS.two
    have hS2 := Lib.hid (hS.set4 ep).1
    gi_wp2_with (refine ⟨trivial, ?_⟩; gi_at_call 61; refine (callsIn_wide.2 (C2.out _)).mono ?_; rintro e w2 ⟨rfl, rfl⟩)
    exact ⟨⟨1, by go_num, by omega, hS2.out⟩, by simp [intOf]⟩
  · replace hS : US w wr MC ep q r0 r1 r2 zeroS := hS
    obtain ⟨⟨n0, n1⟩, z0, z1⟩ := hS.two
    have hS2 := Lib.hid (hS.set4 eq).2
    gi_wp2_with (refine ⟨trivial, ?_⟩; gi_at_call 61; refine (callsIn_wide.2 (C3.out _)).mono ?_; rintro e w2 ⟨rfl, rfl⟩)
    exact ⟨⟨2, by go_num, by omega, hS2.out⟩, by simp [intOf]⟩
  · replace hS : US w wr MC ep eq r0 r1 r2 zeroS := hS
    obtain ⟨⟨n0, n1⟩, z0, z1⟩ := hS.two
    gi_wp2_with (first
      | (refine wpListIn_load_at rfl 36 (.tmp 3) rfl w.heap.size 0 MC (by kernel_rfl) (range_rowF hS.r3) Tryz.underlying36 rfl HI.out ?_)
      | (refine ⟨trivial, ?_⟩; gi_at_call 62; refine (callsIn_wide.2 (C4.out _)).mono ?_; rintro e w2 ⟨rfl, hw2⟩))
    have hz : w2.heap.size = wr.heap.size + 2 := by rw [← hw2]; simp
    have kx : Row w2 wr.heap.size 36 (retC line key MA MB DD) := by rw [← HMC.out, ← hw2]; exact (Row.new wr 36 MC).alloc _
    have kl : Row w2 (wr.heap.size + 1) 59 [.int .i64 ep, .int .i64 eq] := by
      rw [← hw2]; have := Row.new (wr.alloc (.cells MC.toArray 36)) 59 [.int .i64 ep, .int .i64 eq]; rw [World.size_alloc] at this; exact this
    have hBW : Below wr.heap.size wr w2 := by rw [← hw2]; exact ((Below.refl _ _).alloc (Nat.le_refl _) _).alloc (by simp) _
    have hlo : w.heap.size + 3 < wr.heap.size := hS.r6.lt
    replace hS := hS.below hBW
    clear hw2 hBW n0 n1 z0 z1
    have hseq := plain_seq wr.heap.size (wr.heap.size + 1) (w2.heap.size + 2) line key MA MB ep eq DD 2 (by omega)
    refine wpIn_rangeL (w := w2) rfl (by omega) (gf := 117) (lb := #[.pointer (some ⟨wr.heap.size, 0, none⟩), .pointer (some ⟨wr.heap.size + 1, 0, none⟩)]) rfl trivial (enters_of Tryz.func117 (by kernel_rfl) rfl)
      hseq
      (fun W hW => ⟨kx.below hW kx.lt, kl.below hW kl.lt⟩) (by omega) (fun h => h) (fun h => h)
      (fun v hv => by simp [plV] at hv; rcases hv with rfl | rfl | rfl <;> rfl)
      (fun k W => US w W MC ep eq r0 r1 r2 (sTo SS k))
      (fun c k W => False)
      (fun k W W' row hs hg hr => hs.kept hg (fun r e => by have := (hr r e).resolve_left (fun h => h); omega))
      (fun c k W W' row h hg hr => h)
      hS
      (fun k a' W => ∃ (c : Nat) (ca cb : Int), (plV MA MB ep eq)[k]? = some (plA k ca cb) ∧ w2.heap.size + 2 ≤ c ∧ Row W c 32 [.int .i64 ca, .int .i64 cb] ∧ a' = { tmps := #[Value.agg MC.toArray, Value.agg #[Value.int IntKind.i64 p, Value.int IntKind.i64 q], Value.agg #[Value.int IntKind.i64 r0, Value.int IntKind.i64 r1, Value.int IntKind.i64 r2], Value.pointer (some { block := w.heap.size, off := 0 }), Value.pointer (some { block := w.heap.size + 1, off := 0 }), Value.pointer (some { block := w.heap.size + 1 + 1, off := 0 }), Value.pointer (some { block := w.heap.size + 1 + 1 + 1, off := 0 }), u7, u8, u9, u10, u11, Value.int IntKind.i64 (k : Int), Value.pointer (some { block := c, off := 0 }), Value.agg MC.toArray, Value.int IntKind.i64 0, Value.int IntKind.i64 0, Value.bool false, undef, undef, Value.agg #[Value.int IntKind.i64 p, Value.int IntKind.i64 q], Value.int IntKind.i64 2, Value.bool false, u23, u24, u25, u26, u27, u28, u29, u30, u31, u32, u33, u34, u35, u36, Value.agg MC.toArray, Value.agg #[Value.int IntKind.i64 ep, Value.int IntKind.i64 eq], Value.func (Fn.func 117) #[]   #[Value.pointer (some { block := wr.heap.size, off := 0 }),     Value.pointer (some { block := wr.heap.size + 1, off := 0 })], Value.int IntKind.i64 (k : Int), Value.agg #[Value.int IntKind.i64 ca, Value.int IntKind.i64 cb], undef, undef, undef, undef, undef, undef, undef, undef, undef, undef], defers := [] })
      (fun k a' _ W W' row ⟨c, ca, cb, h1, h2, h3, h4⟩ hg hr => ⟨c, ca, cb, h1, h2, h3.keep (hg.block c h3.lt (fun e => by have := hr _ e.symm; omega)), h4⟩) ?assign ?body ?done ?stop
    case assign =>
      rintro L j v W K hI hv hsz hK
      rcases (show j = 0 ∨ j = 1 ∨ j = 2 by have := (List.getElem?_eq_some_iff.1 hv).1; simp [plV] at this; omega) with rfl | rfl | rfl
      · obtain rfl : plA 0 MA MB = v := by simpa [plV] using hv
        clear hv
        have hIn := hI.below (below_alloc' W (.cells #[.int .i64 MA, .int .i64 MB] 32))
        have HIN := Lib.hid hIn
        clear hI hIn hseq kx
        unfold plA
        gi_wp2
        exact hK _ _ (Kept.alloc W _ hsz) (fun r hr => by cases hr; exact Below.heap_alloc _ _ _ (by omega)) HIN.out ⟨W.heap.size, MA, MB, rfl, hsz, Row.new W 32 [.int .i64 MA, .int .i64 MB], rfl⟩
      · obtain rfl : plA 1 1 ep = v := by simpa [plV] using hv
        clear hv
        have hIn := hI.below (below_alloc' W (.cells #[.int .i64 1, .int .i64 ep] 32))
        have HIN := Lib.hid hIn
        clear hI hIn hseq kx
        unfold plA
        gi_wp2
        exact hK _ _ (Kept.alloc W _ hsz) (fun r hr => by cases hr; exact Below.heap_alloc _ _ _ (by omega)) HIN.out ⟨W.heap.size, 1, ep, rfl, hsz, Row.new W 32 [.int .i64 1, .int .i64 ep], rfl⟩
      · obtain rfl : plA 2 1 eq = v := by simpa [plV] using hv
        clear hv
        have hIn := hI.below (below_alloc' W (.cells #[.int .i64 1, .int .i64 eq] 32))
        have HIN := Lib.hid hIn
        clear hI hIn hseq kx
        unfold plA
        gi_wp2
        exact hK _ _ (Kept.alloc W _ hsz) (fun r hr => by cases hr; exact Below.heap_alloc _ _ _ (by omega)) HIN.out ⟨W.heap.size, 1, eq, rfl, hsz, Row.new W 32 [.int .i64 1, .int .i64 eq], rfl⟩
    case body =>
      rintro L j v a' W hI ⟨c, ca, cb, hv', hc, hrow, rfl⟩ hv hsz
      dsimp only
      have k1 : W.cell? ⟨w.heap.size, 1, none⟩ = some (.int .i64 key) := by have := hI.r3; rw [HMC.out] at this; exact this.cell 1
      have k3 : W.cell? ⟨c, 0, none⟩ = some (.int .i64 ca) := hrow.cell 0
      have k4 : W.cell? ⟨c, 1, none⟩ = some (.int .i64 cb) := hrow.cell 1
      have hlt3 := hI.r3.lt
      have hlt5 := hI.r5.lt
      have hltc := hrow.lt
      have hj : j = 0 ∨ j = 1 ∨ j = 2 := by have := (List.getElem?_eq_some_iff.1 hv).1; simp [plV] at this; omega
      clear hv hrow hseq kx kl
      rcases hj with rfl | rfl | rfl
      · obtain ⟨rfl, rfl⟩ : MA = ca ∧ MB = cb := by simpa [plV] using hv'
        have k2 : W.cell? ⟨w.heap.size + 1 + 1, 0, none⟩ = some (.int .i64 r0) := hI.r5.cell 0
        clear hv'
        gi_wp2
        refine wpIn_region_det 9 (fun w0 => Below W.heap.size W w0) (by kernel_rfl) (by kernel_rfl) (fun ⟨_, _, h⟩ => h) (Below.refl _ _).drew ?_
        refine wpDet_take (v := ?_) rfl (by kernel_rfl) (fun w0 hSw => ?_) ?_
        rotate_left 1
        · have y1 := (hSw.cell (p := ⟨w.heap.size, 1, none⟩) hlt3).trans k1; have y2 := (hSw.cell (p := ⟨w.heap.size + 1 + 1, 0, none⟩) hlt5).trans k2; have y3 := (hSw.cell (p := ⟨c, 0, none⟩) hltc).trans k3; have y4 := (hSw.cell (p := ⟨c, 1, none⟩) hltc).trans k4
          go_simp
          with_reducible rfl
        simp only [Act.put, List.getElem_toArray, List.getElem_cons_succ, List.getElem_cons_zero, List.setIfInBounds_toArray, List.set_cons_zero, List.set_cons_succ]
        refine wpDet_take (v := ?_) rfl (by kernel_rfl) (fun w0 hSw => ?_) ?_
        rotate_left 1
        · have y1 := (hSw.cell (p := ⟨w.heap.size, 1, none⟩) hlt3).trans k1; have y2 := (hSw.cell (p := ⟨w.heap.size + 1 + 1, 0, none⟩) hlt5).trans k2; have y3 := (hSw.cell (p := ⟨c, 0, none⟩) hltc).trans k3; have y4 := (hSw.cell (p := ⟨c, 1, none⟩) hltc).trans k4
          go_simp
          with_reducible rfl
        simp only [Act.put, List.getElem_toArray, List.getElem_cons_succ, List.getElem_cons_zero, List.setIfInBounds_toArray, List.set_cons_zero, List.set_cons_succ]
        refine wpDet_take (v := ?_) rfl (by kernel_rfl) (fun w0 hSw => ?_) ?_
        rotate_left 1
        · have y1 := (hSw.cell (p := ⟨w.heap.size, 1, none⟩) hlt3).trans k1; have y2 := (hSw.cell (p := ⟨w.heap.size + 1 + 1, 0, none⟩) hlt5).trans k2; have y3 := (hSw.cell (p := ⟨c, 0, none⟩) hltc).trans k3; have y4 := (hSw.cell (p := ⟨c, 1, none⟩) hltc).trans k4
          go_simp
          with_reducible rfl
        simp only [Act.put, List.getElem_toArray, List.getElem_cons_succ, List.getElem_cons_zero, List.setIfInBounds_toArray, List.set_cons_zero, List.set_cons_succ]
        refine wpDet_take (v := ?_) rfl (by kernel_rfl) (fun w0 hSw => ?_) ?_
        rotate_left 1
        · have y1 := (hSw.cell (p := ⟨w.heap.size, 1, none⟩) hlt3).trans k1; have y2 := (hSw.cell (p := ⟨w.heap.size + 1 + 1, 0, none⟩) hlt5).trans k2; have y3 := (hSw.cell (p := ⟨c, 0, none⟩) hltc).trans k3; have y4 := (hSw.cell (p := ⟨c, 1, none⟩) hltc).trans k4
          go_simp
          with_reducible rfl
        simp only [Act.put, List.getElem_toArray, List.getElem_cons_succ, List.getElem_cons_zero, List.setIfInBounds_toArray, List.set_cons_zero, List.set_cons_succ]
        refine wpDet_take (v := ?_) rfl (by kernel_rfl) (fun w0 hSw => ?_) ?_
        rotate_left 1
        · have y1 := (hSw.cell (p := ⟨w.heap.size, 1, none⟩) hlt3).trans k1; have y2 := (hSw.cell (p := ⟨w.heap.size + 1 + 1, 0, none⟩) hlt5).trans k2; have y3 := (hSw.cell (p := ⟨c, 0, none⟩) hltc).trans k3; have y4 := (hSw.cell (p := ⟨c, 1, none⟩) hltc).trans k4
          go_simp
          with_reducible rfl
        simp only [Act.put, List.getElem_toArray, List.getElem_cons_succ, List.getElem_cons_zero, List.setIfInBounds_toArray, List.set_cons_zero, List.set_cons_succ]
        refine wpDet_take (v := ?_) rfl (by kernel_rfl) (fun w0 hSw => ?_) ?_
        rotate_left 1
        · have y1 := (hSw.cell (p := ⟨w.heap.size, 1, none⟩) hlt3).trans k1; have y2 := (hSw.cell (p := ⟨w.heap.size + 1 + 1, 0, none⟩) hlt5).trans k2; have y3 := (hSw.cell (p := ⟨c, 0, none⟩) hltc).trans k3; have y4 := (hSw.cell (p := ⟨c, 1, none⟩) hltc).trans k4
          go_simp
          with_reducible rfl
        simp only [Act.put, List.getElem_toArray, List.getElem_cons_succ, List.getElem_cons_zero, List.setIfInBounds_toArray, List.set_cons_zero, List.set_cons_succ]
        refine wpDet_take (v := ?_) rfl (by kernel_rfl) (fun w0 hSw => ?_) ?_
        rotate_left 1
        · have y1 := (hSw.cell (p := ⟨w.heap.size, 1, none⟩) hlt3).trans k1; have y2 := (hSw.cell (p := ⟨w.heap.size + 1 + 1, 0, none⟩) hlt5).trans k2; have y3 := (hSw.cell (p := ⟨c, 0, none⟩) hltc).trans k3; have y4 := (hSw.cell (p := ⟨c, 1, none⟩) hltc).trans k4
          go_simp
          with_reducible rfl
        simp only [Act.put, List.getElem_toArray, List.getElem_cons_succ, List.getElem_cons_zero, List.setIfInBounds_toArray, List.set_cons_zero, List.set_cons_succ]
        refine wpDet_call (v := .agg #[.int .i64 SS.x.a, .int .i64 SS.x.b]) rfl (by kernel_rfl) (fun w0 hSw K hK => ?_) ?_
        · go_simp
          go_at_call 63
          refine (HS0.out _).mono ?_
          rintro e w5 ⟨rfl, hb⟩
          exact hK _ (hSw.trans (hb.mono hSw.size))
        simp only [Act.put, List.getElem_toArray, List.getElem_cons_succ, List.getElem_cons_zero, List.setIfInBounds_toArray, List.set_cons_zero, List.set_cons_succ]
        refine wpDet_take (v := ?_) rfl (by kernel_rfl) (fun w0 hSw => ?_) ?_
        rotate_left 1
        · have y1 := (hSw.cell (p := ⟨w.heap.size, 1, none⟩) hlt3).trans k1; have y2 := (hSw.cell (p := ⟨w.heap.size + 1 + 1, 0, none⟩) hlt5).trans k2; have y3 := (hSw.cell (p := ⟨c, 0, none⟩) hltc).trans k3; have y4 := (hSw.cell (p := ⟨c, 1, none⟩) hltc).trans k4
          go_simp
          with_reducible rfl
        simp only [Act.put, List.getElem_toArray, List.getElem_cons_succ, List.getElem_cons_zero, List.setIfInBounds_toArray, List.set_cons_zero, List.set_cons_succ]
        refine wpDet_done ?_
        intro X hX
        simp only [List.drop_succ_cons, List.drop_zero]
        have hX6 := hI.below hX
        have hfin := US.set6.1 hX6
        have g0 := hX6.r6.frozen 0
        have g1 := hX6.r6.frozen 1
        have o0 := hX6.r6.cell 0
        have o1 := hX6.r6.cell 1
        simp only [sTo, List.getElem?_cons_zero, List.getElem?_cons_succ] at o0 o1
        have FIN := Lib.hid hfin
        have HXX := Lib.hid hX
        have hltb : w2.heap.size + 2 ≤ W.heap.size := hsz
        clear hfin hX6 hI k1 k2 k3 k4 hX
        go_wp2
        gi_wp2
        refine ⟨(Kept.below HXX.out hsz HXX.out.size).trans ((Kept.setCell _ _ (by simp only []; omega) (by simp only []; omega)).trans (Kept.setCell _ _ (by simp only []; omega) (by simp only []; omega))), fun r hr => ?_, FIN.out⟩
        cases hr
        exact (Below.heap_setCell _ _ _ _ (by simp only []; omega)).trans ((Below.heap_setCell _ _ _ _ (by simp only []; omega)).trans (HXX.out.block _ (by omega)))
      · obtain ⟨rfl, rfl⟩ : 1 = ca ∧ ep = cb := by simpa [plV] using hv'
        have k2 : W.cell? ⟨w.heap.size + 1 + 1, 1, none⟩ = some (.int .i64 r1) := hI.r5.cell 1
        clear hv'
        gi_wp2
        refine wpIn_region_det 9 (fun w0 => Below W.heap.size W w0) (by kernel_rfl) (by kernel_rfl) (fun ⟨_, _, h⟩ => h) (Below.refl _ _).drew ?_
        refine wpDet_take (v := ?_) rfl (by kernel_rfl) (fun w0 hSw => ?_) ?_
        rotate_left 1
        · have y1 := (hSw.cell (p := ⟨w.heap.size, 1, none⟩) hlt3).trans k1; have y2 := (hSw.cell (p := ⟨w.heap.size + 1 + 1, 1, none⟩) hlt5).trans k2; have y3 := (hSw.cell (p := ⟨c, 0, none⟩) hltc).trans k3; have y4 := (hSw.cell (p := ⟨c, 1, none⟩) hltc).trans k4
          go_simp
          with_reducible rfl
        simp only [Act.put, List.getElem_toArray, List.getElem_cons_succ, List.getElem_cons_zero, List.setIfInBounds_toArray, List.set_cons_zero, List.set_cons_succ]
        refine wpDet_take (v := ?_) rfl (by kernel_rfl) (fun w0 hSw => ?_) ?_
        rotate_left 1
        · have y1 := (hSw.cell (p := ⟨w.heap.size, 1, none⟩) hlt3).trans k1; have y2 := (hSw.cell (p := ⟨w.heap.size + 1 + 1, 1, none⟩) hlt5).trans k2; have y3 := (hSw.cell (p := ⟨c, 0, none⟩) hltc).trans k3; have y4 := (hSw.cell (p := ⟨c, 1, none⟩) hltc).trans k4
          go_simp
          with_reducible rfl
        simp only [Act.put, List.getElem_toArray, List.getElem_cons_succ, List.getElem_cons_zero, List.setIfInBounds_toArray, List.set_cons_zero, List.set_cons_succ]
        refine wpDet_take (v := ?_) rfl (by kernel_rfl) (fun w0 hSw => ?_) ?_
        rotate_left 1
        · have y1 := (hSw.cell (p := ⟨w.heap.size, 1, none⟩) hlt3).trans k1; have y2 := (hSw.cell (p := ⟨w.heap.size + 1 + 1, 1, none⟩) hlt5).trans k2; have y3 := (hSw.cell (p := ⟨c, 0, none⟩) hltc).trans k3; have y4 := (hSw.cell (p := ⟨c, 1, none⟩) hltc).trans k4
          go_simp
          with_reducible rfl
        simp only [Act.put, List.getElem_toArray, List.getElem_cons_succ, List.getElem_cons_zero, List.setIfInBounds_toArray, List.set_cons_zero, List.set_cons_succ]
        refine wpDet_take (v := ?_) rfl (by kernel_rfl) (fun w0 hSw => ?_) ?_
        rotate_left 1
        · have y1 := (hSw.cell (p := ⟨w.heap.size, 1, none⟩) hlt3).trans k1; have y2 := (hSw.cell (p := ⟨w.heap.size + 1 + 1, 1, none⟩) hlt5).trans k2; have y3 := (hSw.cell (p := ⟨c, 0, none⟩) hltc).trans k3; have y4 := (hSw.cell (p := ⟨c, 1, none⟩) hltc).trans k4
          go_simp
          with_reducible rfl
        simp only [Act.put, List.getElem_toArray, List.getElem_cons_succ, List.getElem_cons_zero, List.setIfInBounds_toArray, List.set_cons_zero, List.set_cons_succ]
        refine wpDet_take (v := ?_) rfl (by kernel_rfl) (fun w0 hSw => ?_) ?_
        rotate_left 1
        · have y1 := (hSw.cell (p := ⟨w.heap.size, 1, none⟩) hlt3).trans k1; have y2 := (hSw.cell (p := ⟨w.heap.size + 1 + 1, 1, none⟩) hlt5).trans k2; have y3 := (hSw.cell (p := ⟨c, 0, none⟩) hltc).trans k3; have y4 := (hSw.cell (p := ⟨c, 1, none⟩) hltc).trans k4
          go_simp
          with_reducible rfl
        simp only [Act.put, List.getElem_toArray, List.getElem_cons_succ, List.getElem_cons_zero, List.setIfInBounds_toArray, List.set_cons_zero, List.set_cons_succ]
        refine wpDet_take (v := ?_) rfl (by kernel_rfl) (fun w0 hSw => ?_) ?_
        rotate_left 1
        · have y1 := (hSw.cell (p := ⟨w.heap.size, 1, none⟩) hlt3).trans k1; have y2 := (hSw.cell (p := ⟨w.heap.size + 1 + 1, 1, none⟩) hlt5).trans k2; have y3 := (hSw.cell (p := ⟨c, 0, none⟩) hltc).trans k3; have y4 := (hSw.cell (p := ⟨c, 1, none⟩) hltc).trans k4
          go_simp
          with_reducible rfl
        simp only [Act.put, List.getElem_toArray, List.getElem_cons_succ, List.getElem_cons_zero, List.setIfInBounds_toArray, List.set_cons_zero, List.set_cons_succ]
        refine wpDet_take (v := ?_) rfl (by kernel_rfl) (fun w0 hSw => ?_) ?_
        rotate_left 1
        · have y1 := (hSw.cell (p := ⟨w.heap.size, 1, none⟩) hlt3).trans k1; have y2 := (hSw.cell (p := ⟨w.heap.size + 1 + 1, 1, none⟩) hlt5).trans k2; have y3 := (hSw.cell (p := ⟨c, 0, none⟩) hltc).trans k3; have y4 := (hSw.cell (p := ⟨c, 1, none⟩) hltc).trans k4
          go_simp
          with_reducible rfl
        simp only [Act.put, List.getElem_toArray, List.getElem_cons_succ, List.getElem_cons_zero, List.setIfInBounds_toArray, List.set_cons_zero, List.set_cons_succ]
        refine wpDet_call (v := .agg #[.int .i64 SS.y.a, .int .i64 SS.y.b]) rfl (by kernel_rfl) (fun w0 hSw K hK => ?_) ?_
        · go_simp
          go_at_call 63
          refine (HS1.out _).mono ?_
          rintro e w5 ⟨rfl, hb⟩
          exact hK _ (hSw.trans (hb.mono hSw.size))
        simp only [Act.put, List.getElem_toArray, List.getElem_cons_succ, List.getElem_cons_zero, List.setIfInBounds_toArray, List.set_cons_zero, List.set_cons_succ]
        refine wpDet_take (v := ?_) rfl (by kernel_rfl) (fun w0 hSw => ?_) ?_
        rotate_left 1
        · have y1 := (hSw.cell (p := ⟨w.heap.size, 1, none⟩) hlt3).trans k1; have y2 := (hSw.cell (p := ⟨w.heap.size + 1 + 1, 1, none⟩) hlt5).trans k2; have y3 := (hSw.cell (p := ⟨c, 0, none⟩) hltc).trans k3; have y4 := (hSw.cell (p := ⟨c, 1, none⟩) hltc).trans k4
          go_simp
          with_reducible rfl
        simp only [Act.put, List.getElem_toArray, List.getElem_cons_succ, List.getElem_cons_zero, List.setIfInBounds_toArray, List.set_cons_zero, List.set_cons_succ]
        refine wpDet_done ?_
        intro X hX
        simp only [List.drop_succ_cons, List.drop_zero]
        have hX6 := hI.below hX
        have hfin := US.set6.2.1 hX6
        have g0 := hX6.r6.frozen 2
        have g1 := hX6.r6.frozen 3
        have o0 := hX6.r6.cell 2
        have o1 := hX6.r6.cell 3
        simp only [sTo, List.getElem?_cons_zero, List.getElem?_cons_succ] at o0 o1
        have FIN := Lib.hid hfin
        have HXX := Lib.hid hX
        have hltb : w2.heap.size + 2 ≤ W.heap.size := hsz
        clear hfin hX6 hI k1 k2 k3 k4 hX
        go_wp2
        gi_wp2
        refine ⟨(Kept.below HXX.out hsz HXX.out.size).trans ((Kept.setCell _ _ (by simp only []; omega) (by simp only []; omega)).trans (Kept.setCell _ _ (by simp only []; omega) (by simp only []; omega))), fun r hr => ?_, FIN.out⟩
        cases hr
        exact (Below.heap_setCell _ _ _ _ (by simp only []; omega)).trans ((Below.heap_setCell _ _ _ _ (by simp only []; omega)).trans (HXX.out.block _ (by omega)))
      · obtain ⟨rfl, rfl⟩ : 1 = ca ∧ eq = cb := by simpa [plV] using hv'
        have k2 : W.cell? ⟨w.heap.size + 1 + 1, 2, none⟩ = some (.int .i64 r2) := hI.r5.cell 2
        clear hv'
        gi_wp2
        refine wpIn_region_det 9 (fun w0 => Below W.heap.size W w0) (by kernel_rfl) (by kernel_rfl) (fun ⟨_, _, h⟩ => h) (Below.refl _ _).drew ?_
        refine wpDet_take (v := ?_) rfl (by kernel_rfl) (fun w0 hSw => ?_) ?_
        rotate_left 1
        · have y1 := (hSw.cell (p := ⟨w.heap.size, 1, none⟩) hlt3).trans k1; have y2 := (hSw.cell (p := ⟨w.heap.size + 1 + 1, 2, none⟩) hlt5).trans k2; have y3 := (hSw.cell (p := ⟨c, 0, none⟩) hltc).trans k3; have y4 := (hSw.cell (p := ⟨c, 1, none⟩) hltc).trans k4
          go_simp
          with_reducible rfl
        simp only [Act.put, List.getElem_toArray, List.getElem_cons_succ, List.getElem_cons_zero, List.setIfInBounds_toArray, List.set_cons_zero, List.set_cons_succ]
        refine wpDet_take (v := ?_) rfl (by kernel_rfl) (fun w0 hSw => ?_) ?_
        rotate_left 1
        · have y1 := (hSw.cell (p := ⟨w.heap.size, 1, none⟩) hlt3).trans k1; have y2 := (hSw.cell (p := ⟨w.heap.size + 1 + 1, 2, none⟩) hlt5).trans k2; have y3 := (hSw.cell (p := ⟨c, 0, none⟩) hltc).trans k3; have y4 := (hSw.cell (p := ⟨c, 1, none⟩) hltc).trans k4
          go_simp
          with_reducible rfl
        simp only [Act.put, List.getElem_toArray, List.getElem_cons_succ, List.getElem_cons_zero, List.setIfInBounds_toArray, List.set_cons_zero, List.set_cons_succ]
        refine wpDet_take (v := ?_) rfl (by kernel_rfl) (fun w0 hSw => ?_) ?_
        rotate_left 1
        · have y1 := (hSw.cell (p := ⟨w.heap.size, 1, none⟩) hlt3).trans k1; have y2 := (hSw.cell (p := ⟨w.heap.size + 1 + 1, 2, none⟩) hlt5).trans k2; have y3 := (hSw.cell (p := ⟨c, 0, none⟩) hltc).trans k3; have y4 := (hSw.cell (p := ⟨c, 1, none⟩) hltc).trans k4
          go_simp
          with_reducible rfl
        simp only [Act.put, List.getElem_toArray, List.getElem_cons_succ, List.getElem_cons_zero, List.setIfInBounds_toArray, List.set_cons_zero, List.set_cons_succ]
        refine wpDet_take (v := ?_) rfl (by kernel_rfl) (fun w0 hSw => ?_) ?_
        rotate_left 1
        · have y1 := (hSw.cell (p := ⟨w.heap.size, 1, none⟩) hlt3).trans k1; have y2 := (hSw.cell (p := ⟨w.heap.size + 1 + 1, 2, none⟩) hlt5).trans k2; have y3 := (hSw.cell (p := ⟨c, 0, none⟩) hltc).trans k3; have y4 := (hSw.cell (p := ⟨c, 1, none⟩) hltc).trans k4
          go_simp
          with_reducible rfl
        simp only [Act.put, List.getElem_toArray, List.getElem_cons_succ, List.getElem_cons_zero, List.setIfInBounds_toArray, List.set_cons_zero, List.set_cons_succ]
        refine wpDet_take (v := ?_) rfl (by kernel_rfl) (fun w0 hSw => ?_) ?_
        rotate_left 1
        · have y1 := (hSw.cell (p := ⟨w.heap.size, 1, none⟩) hlt3).trans k1; have y2 := (hSw.cell (p := ⟨w.heap.size + 1 + 1, 2, none⟩) hlt5).trans k2; have y3 := (hSw.cell (p := ⟨c, 0, none⟩) hltc).trans k3; have y4 := (hSw.cell (p := ⟨c, 1, none⟩) hltc).trans k4
          go_simp
          with_reducible rfl
        simp only [Act.put, List.getElem_toArray, List.getElem_cons_succ, List.getElem_cons_zero, List.setIfInBounds_toArray, List.set_cons_zero, List.set_cons_succ]
        refine wpDet_take (v := ?_) rfl (by kernel_rfl) (fun w0 hSw => ?_) ?_
        rotate_left 1
        · have y1 := (hSw.cell (p := ⟨w.heap.size, 1, none⟩) hlt3).trans k1; have y2 := (hSw.cell (p := ⟨w.heap.size + 1 + 1, 2, none⟩) hlt5).trans k2; have y3 := (hSw.cell (p := ⟨c, 0, none⟩) hltc).trans k3; have y4 := (hSw.cell (p := ⟨c, 1, none⟩) hltc).trans k4
          go_simp
          with_reducible rfl
        simp only [Act.put, List.getElem_toArray, List.getElem_cons_succ, List.getElem_cons_zero, List.setIfInBounds_toArray, List.set_cons_zero, List.set_cons_succ]
        refine wpDet_take (v := ?_) rfl (by kernel_rfl) (fun w0 hSw => ?_) ?_
        rotate_left 1
        · have y1 := (hSw.cell (p := ⟨w.heap.size, 1, none⟩) hlt3).trans k1; have y2 := (hSw.cell (p := ⟨w.heap.size + 1 + 1, 2, none⟩) hlt5).trans k2; have y3 := (hSw.cell (p := ⟨c, 0, none⟩) hltc).trans k3; have y4 := (hSw.cell (p := ⟨c, 1, none⟩) hltc).trans k4
          go_simp
          with_reducible rfl
        simp only [Act.put, List.getElem_toArray, List.getElem_cons_succ, List.getElem_cons_zero, List.setIfInBounds_toArray, List.set_cons_zero, List.set_cons_succ]
        refine wpDet_call (v := .agg #[.int .i64 SS.z.a, .int .i64 SS.z.b]) rfl (by kernel_rfl) (fun w0 hSw K hK => ?_) ?_
        · go_simp
          go_at_call 63
          refine (HS2.out _).mono ?_
          rintro e w5 ⟨rfl, hb⟩
          exact hK _ (hSw.trans (hb.mono hSw.size))
        simp only [Act.put, List.getElem_toArray, List.getElem_cons_succ, List.getElem_cons_zero, List.setIfInBounds_toArray, List.set_cons_zero, List.set_cons_succ]
        refine wpDet_take (v := ?_) rfl (by kernel_rfl) (fun w0 hSw => ?_) ?_
        rotate_left 1
        · have y1 := (hSw.cell (p := ⟨w.heap.size, 1, none⟩) hlt3).trans k1; have y2 := (hSw.cell (p := ⟨w.heap.size + 1 + 1, 2, none⟩) hlt5).trans k2; have y3 := (hSw.cell (p := ⟨c, 0, none⟩) hltc).trans k3; have y4 := (hSw.cell (p := ⟨c, 1, none⟩) hltc).trans k4
          go_simp
          with_reducible rfl
        simp only [Act.put, List.getElem_toArray, List.getElem_cons_succ, List.getElem_cons_zero, List.setIfInBounds_toArray, List.set_cons_zero, List.set_cons_succ]
        refine wpDet_done ?_
        intro X hX
        simp only [List.drop_succ_cons, List.drop_zero]
        have hX6 := hI.below hX
        have hfin := US.set6.2.2 hX6
        have g0 := hX6.r6.frozen 4
        have g1 := hX6.r6.frozen 5
        have o0 := hX6.r6.cell 4
        have o1 := hX6.r6.cell 5
        simp only [sTo, List.getElem?_cons_zero, List.getElem?_cons_succ] at o0 o1
        have FIN := Lib.hid hfin
        have HXX := Lib.hid hX
        have hltb : w2.heap.size + 2 ≤ W.heap.size := hsz
        clear hfin hX6 hI k1 k2 k3 k4 hX
        go_wp2
        gi_wp2
        refine ⟨(Kept.below HXX.out hsz HXX.out.size).trans ((Kept.setCell _ _ (by simp only []; omega) (by simp only []; omega)).trans (Kept.setCell _ _ (by simp only []; omega) (by simp only []; omega))), fun r hr => ?_, FIN.out⟩
        cases hr
        exact (Below.heap_setCell _ _ _ _ (by simp only []; omega)).trans ((Below.heap_setCell _ _ _ _ (by simp only []; omega)).trans (HXX.out.block _ (by omega)))
    case done =>
      rintro W hI hsz hD
      rw [show (plV MA MB ep eq).length = 3 from rfl] at hI
      have hI2 : US w W MC ep eq r0 r1 r2 SS.cells := hI
      have h6 := hI2.r6
      have o0 : W.cell? ⟨w.heap.size + 1 + 1 + 1, 0, none⟩ = some (.int .i64 SS.x.a) := h6.cell 0
      have o1 : W.cell? ⟨w.heap.size + 1 + 1 + 1, 1, none⟩ = some (.int .i64 SS.x.b) := h6.cell 1
      have o2 : W.cell? ⟨w.heap.size + 1 + 1 + 1, 2, none⟩ = some (.int .i64 SS.y.a) := h6.cell 2
      have o3 : W.cell? ⟨w.heap.size + 1 + 1 + 1, 3, none⟩ = some (.int .i64 SS.y.b) := h6.cell 3
      have o4 : W.cell? ⟨w.heap.size + 1 + 1 + 1, 4, none⟩ = some (.int .i64 SS.z.a) := h6.cell 4
      have o5 : W.cell? ⟨w.heap.size + 1 + 1 + 1, 5, none⟩ = some (.int .i64 SS.z.b) := h6.cell 5
      have f0 := h6.frozen 0
      have f1 := h6.frozen 1
      have f2 := h6.frozen 2
      have f3 := h6.frozen 3
      have f4 := h6.frozen 4
      have f5 := h6.frozen 5
      have HI2 := Lib.hid hI2
      have HDD := Lib.hid hD
      have hlb : w.heap.size + 1 + 1 + 1 < w2.heap.size := by omega
      have HLB := Lib.hid hlb
      clear hI hI2 h6 hD hseq kx kl hS hlb
      gi_wp2
      exact use_end HI2.out HLB.out HDD.out rfl rfl
    case stop =>
      rintro c k W _ h
      exact h.elim
end Go.Proofs.YthckledagggoiaaGreatDoor
