import Derived.Laws.CopyRow
import Derived.Test.YthboebhghaabnaaGreatDoorPzg
set_option linter.unusedSimpArgs false
set_option linter.unusedVariables false
namespace Go.Proofs.YthboebhghaabnaaGreatDoor
open Go.RowKit Fk Sha
/-! A shuffle is made. -/
theorem wp_one {P : Program} {o : Oper} {a : Act} {w : World} {K : Act → World → Prop} {Q : Exit → Act → World → Prop} (t e : TypeId) (x : Operand) (ho : o.op = .buildSlice t 1 #[(0, x)]) (cs : Array Value) (hx : a.eval x = .agg cs)
    (hr : (Instr.buildSlice t 1 #[(0, .agg cs)]).run P w = .ok (.slice (some ⟨w.heap.size, 0, none⟩) 1 1) (w.alloc (.cells cs e)))
    (h : K (a.put o.dst (.slice (some ⟨w.heap.size, 0, none⟩) 1 1)) (w.alloc (.cells cs e))) : o.wp P a w K Q := by
  unfold Oper.wp execOp
  simp only [ho, Sem.run_bind, List.map_toArray, List.map_cons, List.map_nil, hx, hr, Result.andThen_ok]
  exact h
theorem row_self {W : World} {g i : Nat} {t : TypeId} {vs : List Value} {v : Value} (h : Row W g t vs) (hv : vs[i]? = some v) : W.setCell ⟨g, i, none⟩ v = W := by
  rw [setCell_eq_setRow W g i vs.toArray t (0, 0) v h]
  have e : vs.toArray.setIfInBounds i v = vs.toArray := by
    apply Array.ext'
    obtain ⟨hi, he⟩ := List.getElem?_eq_some_iff.1 hv
    simp only [Array.toList_setIfInBounds]
    subst he
    exact List.set_getElem_self hi
  rw [e]
  exact setRow_self W g vs.toArray t (0, 0) h
theorem wpTreeW_done {P : Program} {ops : Array Oper} {Q : Exit → Act → World → Prop} {S : World → Prop} {a : Act} {w : World} (h : Q .normal a w) : wpTreeW P ops Q S .done a w := h
theorem cells6 {W : World} {g : Nat} {t : TypeId} {l : List Se} (h : Row W g t (l.flatMap encS)) {k : Nat} (hk : k < l.length) (hl : l.length ≤ 1000) : W.cell? ⟨g, k * 6, none⟩ = some (.int .i64 (l.getD k default).x.a) ∧ W.cell? ⟨g, k * 6 + 1, none⟩ = some (.int .i64 (l.getD k default).x.b) ∧ W.cell? ⟨g, k * 6 + 2, none⟩ = some (.int .i64 (l.getD k default).y.a) ∧
    W.cell? ⟨g, k * 6 + 3, none⟩ = some (.int .i64 (l.getD k default).y.b) ∧ W.cell? ⟨g, k * 6 + 4, none⟩ = some (.int .i64 (l.getD k default).z.a) ∧ W.cell? ⟨g, k * 6 + 5, none⟩ = some (.int .i64 (l.getD k default).z.b) := by
  have hs : SlS W (g + 1) (.slice (some ⟨g, 0, none⟩) l.length l.length) l := Row.sl h (fun _ => rfl) (by omega) (by omega)
  obtain ⟨b, o, ha, hb, e⟩ := sl_at hs hk
  injection ha with ha
  injection ha with h1 h2
  subst h1 h2
  have e0 := e 0 (by omega)
  have e1 := e 1 (by omega)
  have e2 := e 2 (by omega)
  have e3 := e 3 (by omega)
  have e4 := e 4 (by omega)
  have e5 := e 5 (by omega)
  simp only [Nat.zero_add, Nat.add_zero] at e0 e1 e2 e3 e4 e5
  exact ⟨e0, e1, e2, e3, e4, e5⟩
def midsTo (key : Int) (s : List Se) (t : Tn) (k : Nat) : List Se := (List.range k).map (midAt key s t) ++ List.replicate (s.length - k) default
theorem midsTo_length (key : Int) (s : List Se) (t : Tn) {k : Nat} (hk : k ≤ s.length) : (midsTo key s t k).length = s.length := by simp [midsTo]; omega
theorem midsTo_succ (key : Int) (s : List Se) (t : Tn) {k : Nat} (hk : k < s.length) : (midsTo key s t k).set k (midAt key s t k) = midsTo key s t (k + 1) := by
  unfold midsTo
  rw [List.set_append_right _ _ (by simp), map_range_snoc, List.append_assoc]
  congr 1
  rw [show s.length - k = (s.length - (k + 1)) + 1 by omega, List.replicate_succ]
  simp
theorem midsTo_at (key : Int) (s : List Se) (t : Tn) {k : Nat} (hk : k < s.length) : (midsTo key s t (k + 1)).getD k default = midAt key s t k := by
  unfold midsTo
  rw [List.getD_eq_getElem?_getD, List.getElem?_append_left (by simp), List.getElem?_map, List.getElem?_range (by omega)]
  rfl
def leftsTo (t : Tn) (k : Nat) : List (List B) := (List.range k).map fun j => comN tagL (ogL t j)
def rightsTo (t : Tn) (k : Nat) : List (List B) := (List.range k).map fun j => comN tagR (ogR t j)
theorem hidx0 (w : World) : (Instr.index 72 (.agg #[.string ⟨#[108, 101, 102, 116]⟩, .func (Fn.func 48) #[] #[], .func (Fn.func 49) #[] #[], .func (Fn.func 50) #[] #[], .string ⟨#[114, 105, 103, 104, 116]⟩, .func (Fn.func 51) #[] #[], .func (Fn.func 52) #[] #[], .func (Fn.func 53) #[] #[]]) (.int .i64 0)).run Tryz.prog w = .ok (.agg #[.string ⟨#[108, 101, 102, 116]⟩, .func (Fn.func 48) #[] #[], .func (Fn.func 49) #[] #[], .func (Fn.func 50) #[] #[]]) w := by kernel_rfl
theorem hidx1 (w : World) : (Instr.index 72 (.agg #[.string ⟨#[108, 101, 102, 116]⟩, .func (Fn.func 48) #[] #[], .func (Fn.func 49) #[] #[], .func (Fn.func 50) #[] #[], .string ⟨#[114, 105, 103, 104, 116]⟩, .func (Fn.func 51) #[] #[], .func (Fn.func 52) #[] #[], .func (Fn.func 53) #[] #[]]) (.int .i64 1)).run Tryz.prog w = .ok (.agg #[.string ⟨#[114, 105, 103, 104, 116]⟩, .func (Fn.func 51) #[] #[], .func (Fn.func 52) #[] #[], .func (Fn.func 53) #[] #[]]) w := by kernel_rfl
structure OkTn (t : Tn) : Prop where
  s : ∀ i, i < t.s.length → (t.s.getD i default).length = 64
  l : ∀ i, i < t.l.length → i < t.rl.length → i < t.s.length → (ogL t i).ok
  r : ∀ i, i < t.r.length → i < t.rr.length → i < t.s.length → (ogR t i).ok
set_option maxRecDepth 100000 in
set_option maxHeartbeats 8000000 in
theorem make_main (key : Int) (s : List Se) (t : Tn) (x : TnA) (A : Option Addr) (c : Nat) (w : World) (hT : TabS w) (h : TnS w w.heap.size x t) (hs : SlS w w.heap.size (.slice A s.length c) s) (hok : OkTn t) (hE : mixE key s t = 0) :
    Calls Tryz.prog 7 #[.int .i64 key, .slice A s.length c, .agg (x.cells t).toArray] w fun e w' => ∃ y : MxA, e = .returned (.tuple #[.agg (y.cells (mixTo key s t s.length)).toArray, .int .i64 0]) ∧ Below w.heap.size w w' ∧ MxS w' w'.heap.size y (mixTo key s t s.length) := by
  have hE2 : vld key = true ∧ s.length ≤ 64 ∧ s.all okS = true ∧ rightB t s.length = true := by
    unfold mixE at hE
    by_cases h1 : vld key = true
    · rw [if_pos h1] at hE
      by_cases h2 : s.length ≤ 64
      · rw [if_pos h2] at hE
        by_cases h3 : s.all okS = true
        · rw [if_pos h3] at hE
          by_cases h4 : rightB t s.length = true
          · exact ⟨h1, h2, h3, h4⟩
          · rw [if_neg h4] at hE; cases hE
        · rw [if_neg h3] at hE; cases hE
      · rw [if_neg h2] at hE; cases hE
    · rw [if_neg h1] at hE; cases hE
  obtain ⟨f1, f2, f3, f4⟩ := hE2
  obtain ⟨e1, e2, e3, e4, e5, _, e7, e8⟩ := rightB_facts f4
  have hB := (below_alloc' w (.cells (x.cells t).toArray 27)).alloc (by simp) (.cells #[.slice none 0 0, .slice none 0 0, .slice none 0 0, .slice none 0 0, .slice none 0 0] 32)
  have r0 := (Row.new w 27 (x.cells t)).alloc (.cells #[.slice none 0 0, .slice none 0 0, .slice none 0 0, .slice none 0 0, .slice none 0 0] 32)
  have r1 : Row ((w.alloc (.cells (x.cells t).toArray 27)).alloc (.cells #[.slice none 0 0, .slice none 0 0, .slice none 0 0, .slice none 0 0, .slice none 0 0] 32)) (w.heap.size + 1) 32 [.slice none 0 0, .slice none 0 0, .slice none 0 0, .slice none 0 0, .slice none 0 0] := rowZ (by simp) _ [.slice none 0 0, .slice none 0 0, .slice none 0 0, .slice none 0 0, .slice none 0 0]
  obtain ⟨W, hW⟩ : ∃ W, (w.alloc (.cells (x.cells t).toArray 27)).alloc (.cells #[.slice none 0 0, .slice none 0 0, .slice none 0 0, .slice none 0 0, .slice none 0 0] 32) = W := ⟨_, rfl⟩
  rw [hW] at hB r0 r1
  have q1 := fun w => valid_any key w
  rw [f1] at q1
  have q2 := fun (w' : World) (hb' : Below w.heap.size w w') => formed_any s _ w' ((hs.below hb').mono hb'.size)
  rw [f3] at q2
  have q3 := fun (w' : World) (hb' : Below w.heap.size w w') => right_any t x s.length w' ((h.below hb').mono hb'.size)
  rw [f4] at q3
  have hLL : ∀ k, k < s.length → (ogL t k).ok := fun k hk => hok.l k (by omega) (by omega) (by omega)
  have hRR : ∀ k, k < s.length → (ogR t k).ok := fun k hk => hok.r k (by omega) (by omega) (by omega)
  have q4 := fun (k : Nat) (hk : k < s.length) (w' : World) (hb' : Below w.heap.size w w') => half1_any t x k w' ((h.below hb').mono hb'.size) (by omega) (by omega) (by omega) (hok.s k (by omega))
  have q5 := fun (k : Nat) (hk : k < s.length) (w' : World) (hb' : Below w.heap.size w w') => half4_any t x k w' ((h.below hb').mono hb'.size) (by omega) (by omega) (by omega) (hok.s k (by omega))
  have q6 := fun (k : Nat) (hk : k < s.length) (w' : World) (hb' : Below w.heap.size w w') => commitS tagL (ogL t k) (hLL k hk) (by decide) w' (hT.below hb')
  have q7 := fun (k : Nat) (hk : k < s.length) (w' : World) (hb' : Below w.heap.size w w') => commitS tagR (ogR t k) (hRR k hk) (by decide) w' (hT.below hb')
  obtain ⟨al, cl, ar, cr, arl, crl, arr, crr, at_, ct⟩ := x
  have HX : (TnA.cells ⟨al, cl, ar, cr, arl, crl, arr, crr, at_, ct⟩ t) = [.slice al s.length cl, .slice ar s.length cr, .slice arl s.length crl, .slice arr s.length crr, .slice at_ s.length ct] := by
    unfold TnA.cells
    simp only [e1, e2, e3, e4, e5]
  obtain ⟨hh1, hh2, hh3, hh4, hh5⟩ := h
  simp only at hh1 hh2 hh3 hh4 hh5
  rw [e1] at hh1
  rw [e2] at hh2
  rw [e3] at hh3
  rw [e4] at hh4
  rw [HX] at r0 q3 q4 q5 hW ⊢
  replace hW : (w.alloc (.cells #[.slice al s.length cl, .slice ar s.length cr, .slice arl s.length crl, .slice arr s.length crr, .slice at_ s.length ct] 27)).alloc (.cells #[.slice none 0 0, .slice none 0 0, .slice none 0 0, .slice none 0 0, .slice none 0 0] 32) = W := hW
  have c0 : W.cell? ⟨w.heap.size, 0, none⟩ = some _ := r0.cell 0
  have c1 : W.cell? ⟨w.heap.size, 1, none⟩ = some _ := r0.cell 1
  have c2 : W.cell? ⟨w.heap.size, 2, none⟩ = some _ := r0.cell 2
  have c3 : W.cell? ⟨w.heap.size, 3, none⟩ = some _ := r0.cell 3
  have c4 : W.cell? ⟨w.heap.size, 4, none⟩ = some _ := r0.cell 4
  have hlt := r0.lt
  have hlt1 := r1.lt
  have s1 : ¬ ((64 : Int) < s.length) := by omega
  have Q1 := Lib.hid q1
  have Q2 := Lib.hid q2
  have Q3 := Lib.hid q3
  have Q4 := Lib.hid q4
  have Q5 := Lib.hid q5
  have Q6 := Lib.hid q6
  have Q7 := Lib.hid q7
  have H1 := Lib.hid hh1
  have H2 := Lib.hid hh2
  have H3 := Lib.hid hh3
  have H4 := Lib.hid hh4
  have HSS := Lib.hid hs
  have E1 := Lib.hid e1
  have E2 := Lib.hid e2
  have E3 := Lib.hid e3
  have E4 := Lib.hid e4
  have E7 := Lib.hid e7
  have E8 := Lib.hid e8
  have HXX := Lib.hid HX
  clear q1 q2 q3 q4 q5 q6 q7 hh1 hh2 hh3 hh4 hh5 hs e1 e2 e3 e4 e5 e7 e8 hLL hRR hok hE f1 f3 f4 HX hT
  obtain ⟨id0, hid, hidz0, hidz1, hidz2⟩ := info_parts infoD32
  go_enter Tryz.func7, Tryz.ntmps7
  go_upto_region 1 with fail
  try rw [hW]
  clear hW
  go_upto_region 9 with (first
    | (go_at_call 22; (with_reducible refine (Q1.out _).mono ?_); rintro e w1 ⟨rfl, rfl⟩)
    | (go_at_call 23; (with_reducible refine (Q2.out _ hB).mono ?_); rintro e w2 ⟨rfl, hb2⟩; have hB2 := hB.trans (hb2.mono hB.size); have d0 : w2.cell? ⟨w.heap.size, 0, none⟩ = _ := (hb2.cell (p := ⟨w.heap.size, 0, none⟩) hlt).trans c0; have d1 : w2.cell? ⟨w.heap.size, 1, none⟩ = _ := (hb2.cell (p := ⟨w.heap.size, 1, none⟩) hlt).trans c1; have d2 : w2.cell? ⟨w.heap.size, 2, none⟩ = _ := (hb2.cell (p := ⟨w.heap.size, 2, none⟩) hlt).trans c2; have d3 : w2.cell? ⟨w.heap.size, 3, none⟩ = _ := (hb2.cell (p := ⟨w.heap.size, 3, none⟩) hlt).trans c3; have d4 : w2.cell? ⟨w.heap.size, 4, none⟩ = _ := (hb2.cell (p := ⟨w.heap.size, 4, none⟩) hlt).trans c4)
    | (go_at_call 24; (with_reducible refine (Q3.out _ hB2).mono ?_); rintro e w3 ⟨rfl, hb3⟩; replace hb3 := hb2.trans (hb3.mono hb2.size)))
  obtain ⟨ZZ, hZZ⟩ : ∃ ZZ, (List.replicate s.length (default : Se)).flatMap encS = ZZ := ⟨_, rfl⟩
  have hmk : ∀ w : World, (Instr.makeSlice 22 (.int .i64 (s.length : Int)) (.int .i64 (s.length : Int))).run Tryz.prog w = .ok (.slice (some ⟨w.heap.size, 0, none⟩) s.length s.length) (w.alloc (.cells ZZ.toArray 45)) := fun w => by rw [← hZZ]; exact make_se _ (by omega) w
  have hHZ := hZZ
  have k0 := r0.below hb3 hlt
  have k1 := r1.below hb3 hlt1
  have hB3 := hB.trans (hb3.mono hB.size)
  have hz3 : w.heap.size + 2 ≤ w3.heap.size := by have := k1.lt; omega
  go_cut [] from 34 to 41 (fun W' => ∃ gM gO base, Mk w t ⟨al, cl, ar, cr, arl, crl, arr, crr, at_, ct⟩ A s.length c base gM gO (midsTo key s t 0) (layTo s.length default t.r (outAt key s t) 0) [] [] W')
  case first =>
    have fin : ∀ gM gO W2, Below w3.heap.size w3 W2 → Row W2 gM 45 ZZ → Row W2 gO 45 ZZ → w3.heap.size ≤ gM → w3.heap.size ≤ gO → gM ≠ gO → gM < W2.heap.size → gO < W2.heap.size → Mk w t ⟨al, cl, ar, cr, arl, crl, arr, crr, at_, ct⟩ A s.length c W2.heap.size gM gO (midsTo key s t 0) (layTo s.length default t.r (outAt key s t) 0) [] []
        (((((W2.setCell ⟨w.heap.size + 1, 0, none⟩ (.slice A s.length c)).setCell ⟨w.heap.size + 1, 1, none⟩ (.slice (some ⟨gM, 0, none⟩) s.length s.length)).setCell ⟨w.heap.size + 1, 2, none⟩ (.slice (some ⟨gO, 0, none⟩) s.length s.length)).setCell ⟨w.heap.size + 1, 3, none⟩ (.slice none 0 0)).setCell ⟨w.heap.size + 1, 4, none⟩ (.slice none 0 0)) := by
      intro gM gO W2 hb rM rO h1 h2 h3 h4 h5
      have e : ∀ (W : World) (i : Nat) (v : Value) (g : Nat) (t : TypeId) (vs : List Value), g ≠ w.heap.size + 1 → Row W g t vs → Row (W.setCell ⟨w.heap.size + 1, i, none⟩ v) g t vs := fun W i v g t vs hg hr => Row.other hr hg v
      have bb : ∀ (W : World) (i : Nat) (v : Value), Below w.heap.size w W → Below w.heap.size w (W.setCell ⟨w.heap.size + 1, i, none⟩ v) := fun W i v h => h.setCell (p := ⟨w.heap.size + 1, i, none⟩) (by show _ ≤ w.heap.size + 1; omega) v
      have kt := k0.below hb (by omega)
      have km := k1.below hb (by omega)
      have hm0 : midsTo key s t 0 = List.replicate s.length default := by simp [midsTo]
      refine ⟨bb _ _ _ (bb _ _ _ (bb _ _ _ (bb _ _ _ (bb _ _ _ (hB3.trans (hb.mono hB3.size)))))), by simp [World.setCell], ?_, ⟨.slice none 0 0, .slice none 0 0, ((((km.store 0 _).store 1 _).store 2 _).store 3 _).store 4 _, World.ownsRow_nil _ _ _ _, World.ownsRow_nil _ _ _ _, fun k e => by cases e⟩, ?_, ?_, ⟨by omega, h4⟩, ⟨by omega, h5⟩, h3⟩
      · rw [HXX.out]
        exact e _ _ _ _ _ _ (by omega) (e _ _ _ _ _ _ (by omega) (e _ _ _ _ _ _ (by omega) (e _ _ _ _ _ _ (by omega) (e _ _ _ _ _ _ (by omega) kt))))
      · rw [hm0, hHZ]
        exact e _ _ _ _ _ _ (by omega) (e _ _ _ _ _ _ (by omega) (e _ _ _ _ _ _ (by omega) (e _ _ _ _ _ _ (by omega) (e _ _ _ _ _ _ (by omega) rM))))
      · rw [layTo_zero, hHZ]
        exact e _ _ _ _ _ _ (by omega) (e _ _ _ _ _ _ (by omega) (e _ _ _ _ _ _ (by omega) (e _ _ _ _ _ _ (by omega) (e _ _ _ _ _ _ (by omega) rO))))
    refine wp_region_tree 8 (.take 0 (.take 1 (.take 2 (.take 4 (.take 5 (.two 3 (.one 6 (.take 7 .done)) 6 (.one 3 (.take 7 .done)))))))) (fun _ => True) (by kernel_rfl) (by kernel_rfl) (fun _ _ d _ _ h => by cases d <;> exact h) trivial ?_
    have hb4 : Below w3.heap.size w3 w3.drew := (Below.refl _ _).drew
    have hz4 : w3.drew.heap.size = w3.heap.size := rfl
    have km : Row w3.drew (w.heap.size + 1) 32 [.slice none 0 0, .slice none 0 0, .slice none 0 0, .slice none 0 0, .slice none 0 0] := k1
    have FIN := Lib.hid fin
    clear fin hZZ k0 d0 d1 d2 d3 d4
    generalize w3.drew = W1 at *
    iterate 5
      refine wpTree_take (v := ?_) rfl (by kernel_rfl) (fun w hSw => ?_) ?_
      rotate_left 1
      · go_simp
        with_reducible rfl
      simp only [Act.put, List.setIfInBounds_toArray, List.set_cons_zero, List.set_cons_succ]
    refine wpTree_two rfl rfl (fun K hK => ⟨by kernel_rfl, ?_⟩) (fun K hK => ⟨by kernel_rfl, ?_⟩)
    all_goals
      go_simp
      refine hK _ _ trivial ?_
      clear hK K
      try simp only [Act.put, List.setIfInBounds_toArray, List.set_cons_zero, List.set_cons_succ]
      refine wpTree_one rfl (fun K hK => ⟨by kernel_rfl, ?_⟩)
      go_simp
      refine hK _ _ trivial ?_
      clear hK K
      try simp only [Act.put, List.setIfInBounds_toArray, List.set_cons_zero, List.set_cons_succ]
      refine wpTree_take (v := ?_) rfl (by kernel_rfl) (fun w hSw => ?_) ?_
      rotate_left 1
      · go_simp
        with_reducible rfl
      simp only [Act.put, List.setIfInBounds_toArray, List.set_cons_zero, List.set_cons_succ]
      refine wpTree_done ?_
      simp only [List.drop_succ_cons, List.drop_zero]
      have ra := (Row.new W1 45 ZZ).alloc (.cells ZZ.toArray 45)
      have rb : Row ((W1.alloc (.cells ZZ.toArray 45)).alloc (.cells ZZ.toArray 45)) (W1.heap.size + 1) 45 ZZ := rowZ (by simp) _ ZZ
      have hb5 := (hb4.alloc (Nat.le_of_eq hz4.symm) (.cells ZZ.toArray 45)).alloc (by rw [World.size_alloc]; omega) (.cells ZZ.toArray 45)
      have km5 := (km.alloc (.cells ZZ.toArray 45)).alloc (.cells ZZ.toArray 45)
      rw [hz4] at ra rb
      obtain ⟨W2, hW2⟩ : ∃ W2, (W1.alloc (.cells ZZ.toArray 45)).alloc (.cells ZZ.toArray 45) = W2 := ⟨_, rfl⟩
      rw [hW2] at ra rb hb5 km5 ⊢
      clear hW2 hmk
      have m0 : W2.cell? ⟨w.heap.size + 1, 0, none⟩ = some _ := km5.cell 0
      have m1 : W2.cell? ⟨w.heap.size + 1, 1, none⟩ = some _ := km5.cell 1
      have m2 : W2.cell? ⟨w.heap.size + 1, 2, none⟩ = some _ := km5.cell 2
      have m3 : W2.cell? ⟨w.heap.size + 1, 3, none⟩ = some _ := km5.cell 3
      have m4 : W2.cell? ⟨w.heap.size + 1, 4, none⟩ = some _ := km5.cell 4
      have ff := fun i => Row.frozen km5 i
      have la := ra.lt
      have lb := rb.lt
      go_wp2_with fail
      go_meet
      case rel => first
        | exact ⟨_, _, _, FIN.out _ _ _ hb5 ra rb (by omega) (by omega) (by omega) la lb⟩
        | exact ⟨_, _, _, FIN.out _ _ _ hb5 rb ra (by omega) (by omega) (by omega) lb la⟩
  case rest =>
    obtain ⟨gM, gO, base, hMk⟩ := hcut
    have hz0 := hMk.z
    have hg1 := hMk.hm
    have hg2 := hMk.ho
    clear hmk hZZ hHZ d0 d1 d2 d3 d4 k0 k1 hB3 hz3 hb3 hb2 hB2
    go_wp2_with fail
    go_loopg [44] s.length (fun gg iv wr => ∃ k : Nat, iv = .int .i64 k ∧ k + gg = s.length ∧ Mk w t ⟨al, cl, ar, cr, arl, crl, arr, crr, at_, ct⟩ A s.length c base gM gO (midsTo key s t k) (layTo s.length default t.r (outAt key s t) k) (leftsTo t k) (rightsTo t k) wr)
    case atStart => exact ⟨0, rfl, by omega, hMk⟩
    case round =>
      clear hMk
      obtain ⟨k, rfl, hkg, hMk⟩ := hrel
      by_cases hk : k < s.length
      · obtain ⟨b0, o0, ha0, hb0, e0⟩ := sl_at H1.out (j := k) (by rw [E1.out]; exact hk)
        obtain ⟨b1, o1, ha1, hb1, e1⟩ := sl_at H2.out (j := k) (by rw [E2.out]; exact hk)
        obtain ⟨b2, o2, ha2, hb2, e2⟩ := sl_at H3.out (j := k) (by rw [E3.out]; exact hk)
        obtain ⟨b3, o3, ha3, hb3, e3⟩ := sl_at H4.out (j := k) (by rw [E4.out]; exact hk)
        subst ha0 ha1 ha2 ha3
        have hp1 := permB_at E7.out (k := k) (by rw [E1.out]; exact hk)
        have hp2 := permB_at E8.out (k := k) (by rw [E2.out]; exact hk)
        rw [E1.out] at hp1
        rw [E2.out] at hp2
        have hmid : midAt key s t k = againC key (s.getD (t.l.getD k default).toNat default) (t.rl.getD k default) := rfl
        have hout : outAt key s t k = againC key (midAt key s t k) (t.rr.getD k default) := rfl
        have hlay := layTo_succ s.length default t.r (outAt key s t) k
        obtain ⟨p, hp⟩ : ∃ p : Nat, t.l.getD k default = p := ⟨(t.l.getD k default).toNat, by omega⟩
        obtain ⟨p2, hp2'⟩ : ∃ p : Nat, t.r.getD k default = p := ⟨(t.r.getD k default).toNat, by omega⟩
        rw [hp] at hp1
        rw [hp2'] at hp2
        rw [hp, Int.toNat_natCast] at hmid
        rw [hp2', Int.toNat_natCast] at hlay
        obtain ⟨bi, oi, hai, hbi, ei⟩ := sl_at HSS.out (j := p) (by omega)
        subst hai
        obtain ⟨X, hX⟩ : ∃ X, s.getD p default = X := ⟨_, rfl⟩
        obtain ⟨r, hr⟩ : ∃ r, t.rl.getD k default = r := ⟨_, rfl⟩
        obtain ⟨rr, hrr⟩ : ∃ r, t.rr.getD k default = r := ⟨_, rfl⟩
        rw [hX] at ei hmid
        rw [hr] at e2 hmid
        rw [hrr] at e3 hout
        obtain ⟨Y, hY⟩ : ∃ Y, midAt key s t k = Y := ⟨_, rfl⟩
        obtain ⟨V, hV⟩ : ∃ V, outAt key s t k = V := ⟨_, rfl⟩
        rw [hY] at hmid hout
        rw [hV] at hout hlay
        have q1 := fun w => again_any key X r w
        have q2 := fun w => again_any key Y rr w
        rw [← hmid] at q1
        rw [← hout] at q2
        obtain ⟨z1, hz1⟩ : ∃ z, againE key X = z := ⟨_, rfl⟩
        obtain ⟨z2, hz2⟩ : ∃ z, againE key Y = z := ⟨_, rfl⟩
        rw [hz1] at q1
        rw [hz2] at q2
        unfold Se.val Tr.val at q1 q2
        have A1 := Lib.hid q1
        have A2 := Lib.hid q2
        have d0 := e0 0 (by omega)
        have d1 := e1 0 (by omega)
        simp only [encI, hp, List.getD_cons_zero, Nat.add_zero, Nat.mul_one] at d0
        simp only [encI, hp2', List.getD_cons_zero, Nat.add_zero, Nat.mul_one] at d1
        have g0 := e2 0 (by omega)
        have g1 := e2 1 (by omega)
        have g2 := e2 2 (by omega)
        have g3 := e3 0 (by omega)
        have g4 := e3 1 (by omega)
        have g5 := e3 2 (by omega)
        have i0 := ei 0 (by omega)
        have i1 := ei 1 (by omega)
        have i2 := ei 2 (by omega)
        have i3 := ei 3 (by omega)
        have i4 := ei 4 (by omega)
        have i5 := ei 5 (by omega)
        simp only [Tr.cells, List.getD_cons_zero, List.getD_cons_succ, Nat.add_zero] at g0 g1 g2 g3 g4 g5
        simp only [encS, Se.cells, List.getD_cons_zero, List.getD_cons_succ, Nat.add_zero] at i0 i1 i2 i3 i4 i5
        have s2 : (0 : Int) ≤ k := by omega
        have s3 : (k : Int) < s.length := by omega
        obtain ⟨s4, s5⟩ := hp1
        obtain ⟨s6, s7⟩ := hp2
        have hml := midsTo_length key s t (k := k) (by omega)
        have hol := layTo_length s.length (default : Se) t.r (outAt key s t) k
        have hmsu := midsTo_succ key s t hk
        have hmat := midsTo_at key s t hk
        rw [hY] at hmsu hmat
        have HLAY := Lib.hid hlay
        have HML := Lib.hid hml
        have HOL := Lib.hid hol
        have HMSU := Lib.hid hmsu
        have HMAT := Lib.hid hmat
        have HP := Lib.hid hp
        clear q1 q2 e0 e1 e2 e3 ei hmid hout hlay hp hp2' hX hr hrr hY hV hz1 hz2 hml hol hmsu hmat
        have lift : ∀ W' : World, Below w.heap.size w W' → ∀ (b i : Nat) (v : Value), b < w.heap.size → w.cell? ⟨b, i, none⟩ = some v → W'.cell? ⟨b, i, none⟩ = some v := fun W' hb' b i v hb hv => (hb'.cell (p := ⟨b, i, none⟩) hb).trans hv
        have LIFT := Lib.hid lift
        clear lift
        go_upto_region 13 with fail
        go_cut [] from 47 to 68 (fun W' => Mk w t ⟨some ⟨b0, o0, none⟩, cl, some ⟨b1, o1, none⟩, cr, some ⟨b2, o2, none⟩, crl, some ⟨b3, o3, none⟩, crr, at_, ct⟩ (some ⟨bi, oi, none⟩) s.length c base gM gO (midsTo key s t (k + 1)) (layTo s.length default t.r (outAt key s t) k) (leftsTo t k) (rightsTo t k) W')
        case first =>
          obtain ⟨vl, vr, mx, _, _, _⟩ := hMk.mx
          have tn := hMk.tn
          rw [HXX.out] at tn
          have hS : ∀ w' : World, (∀ b : Nat, b < w.heap.size + 2 → w'.heap[b]? = wr.heap[b]?) → w'.cell? ⟨w.heap.size + 1, 1, none⟩ = some (.slice (some ⟨gM, 0, none⟩) s.length s.length) ∧ w'.cell? ⟨w.heap.size, 0, none⟩ = some (.slice (some ⟨b0, o0, none⟩) s.length cl) ∧ w'.cell? ⟨w.heap.size, 2, none⟩ = some (.slice (some ⟨b2, o2, none⟩) s.length crl) ∧ w'.cell? ⟨b0, o0 + k, none⟩ = some (.int .i64 (p : Int)) ∧ w'.cell? ⟨b2, o2 + k * 3, none⟩ = some (.int .i64 r.p) ∧ w'.cell? ⟨b2, o2 + k * 3 + 1, none⟩ = some (.int .i64 r.q) ∧ w'.cell? ⟨b2, o2 + k * 3 + 2, none⟩ = some (.int .i64 r.r) ∧ w'.cell? ⟨bi, oi + p * 6, none⟩ = some (.int .i64 X.x.a) ∧ w'.cell? ⟨bi, oi + p * 6 + 1, none⟩ = some (.int .i64 X.x.b) ∧ w'.cell? ⟨bi, oi + p * 6 + 2, none⟩ = some (.int .i64 X.y.a) ∧ w'.cell? ⟨bi, oi + p * 6 + 3, none⟩ = some (.int .i64 X.y.b) ∧ w'.cell? ⟨bi, oi + p * 6 + 4, none⟩ = some (.int .i64 X.z.a) ∧ w'.cell? ⟨bi, oi + p * 6 + 5, none⟩ = some (.int .i64 X.z.b) := fun w' hk' => by
            have kk : ∀ (b i : Nat) (v : Value), b < w.heap.size + 2 → wr.cell? ⟨b, i, none⟩ = some v → w'.cell? ⟨b, i, none⟩ = some v := fun b i v hb hv => (World.cell?_of_block (w := wr) (hk' b hb)).trans hv
            exact ⟨kk _ _ _ (by omega) (mx.cell 1), kk _ _ _ (by omega) (tn.cell 0), kk _ _ _ (by omega) (tn.cell 2), kk _ _ _ (by omega) (LIFT.out _ hMk.b _ _ _ (by omega) d0), kk _ _ _ (by omega) (LIFT.out _ hMk.b _ _ _ (by omega) g0), kk _ _ _ (by omega) (LIFT.out _ hMk.b _ _ _ (by omega) g1), kk _ _ _ (by omega) (LIFT.out _ hMk.b _ _ _ (by omega) g2), kk _ _ _ (by omega) (LIFT.out _ hMk.b _ _ _ (by omega) i0), kk _ _ _ (by omega) (LIFT.out _ hMk.b _ _ _ (by omega) i1), kk _ _ _ (by omega) (LIFT.out _ hMk.b _ _ _ (by omega) i2), kk _ _ _ (by omega) (LIFT.out _ hMk.b _ _ _ (by omega) i3), kk _ _ _ (by omega) (LIFT.out _ hMk.b _ _ _ (by omega) i4), kk _ _ _ (by omega) (LIFT.out _ hMk.b _ _ _ (by omega) i5)⟩
          refine wp_region_treeW (.take 0 (.take 1 (.take 2 (.take 3 (.take 4 (.take 5 (.take 6 (.take 7 (.take 8 (.take 9 (.take 10 (.take 11 (.take 12 (.take 13 (.take 14 (.take 15 (.take 16 (.one 17 (.take 18 (.take 19 (.take 20 (.take 21 (.one 22 .done))))))))))))))))))))))) (fun w' => w'.cell? ⟨w.heap.size + 1, 1, none⟩ = some (.slice (some ⟨gM, 0, none⟩) s.length s.length) ∧ w'.cell? ⟨w.heap.size, 0, none⟩ = some (.slice (some ⟨b0, o0, none⟩) s.length cl) ∧ w'.cell? ⟨w.heap.size, 2, none⟩ = some (.slice (some ⟨b2, o2, none⟩) s.length crl) ∧ w'.cell? ⟨b0, o0 + k, none⟩ = some (.int .i64 (p : Int)) ∧ w'.cell? ⟨b2, o2 + k * 3, none⟩ = some (.int .i64 r.p) ∧ w'.cell? ⟨b2, o2 + k * 3 + 1, none⟩ = some (.int .i64 r.q) ∧ w'.cell? ⟨b2, o2 + k * 3 + 2, none⟩ = some (.int .i64 r.r) ∧ w'.cell? ⟨bi, oi + p * 6, none⟩ = some (.int .i64 X.x.a) ∧ w'.cell? ⟨bi, oi + p * 6 + 1, none⟩ = some (.int .i64 X.x.b) ∧ w'.cell? ⟨bi, oi + p * 6 + 2, none⟩ = some (.int .i64 X.y.a) ∧ w'.cell? ⟨bi, oi + p * 6 + 3, none⟩ = some (.int .i64 X.y.b) ∧ w'.cell? ⟨bi, oi + p * 6 + 4, none⟩ = some (.int .i64 X.z.a) ∧ w'.cell? ⟨bi, oi + p * 6 + 5, none⟩ = some (.int .i64 X.z.b)) (by kernel_rfl) (by kernel_rfl) (fun _ _ d _ _ h => by cases d <;> exact h) (hS _ (fun _ _ => rfl)) ?_
          have hM1 := hMk.drew
          have hz1 : wr.drew.heap.size = wr.heap.size := rfl
          have hh1 : ∀ b : Nat, wr.drew.heap[b]? = wr.heap[b]? := fun b => rfl
          have HS := Lib.hid hS
          clear hS mx tn hMk
          generalize wr.drew = W1 at *
          iterate 17
            refine wpTreeW_take (v := ?_) rfl (by kernel_rfl) (fun w hSw => ?_) ?_
            rotate_left 1
            · obtain ⟨j0, j1, j2, j3, j4, j5, j6, j7, j8, j9, ja, jb, jc⟩ := hSw
              go_simp
              with_reducible rfl
            simp only [Act.put, List.setIfInBounds_toArray, List.set_cons_zero, List.set_cons_succ]
          refine wpTreeW_one rfl (fun K hK => ⟨by kernel_rfl, ?_⟩)
          go_simp
          go_at_call 25
          refine (A1.out _).mono ?_
          rintro e w9 ⟨rfl, hb9⟩
          have hM9 := hM1.below hb9
          have hz9 := hM1.z
          refine hK _ _ (HS.out _ (fun b hb => (hb9.block b (by omega)).trans (hh1 b))) ?_
          clear hK K
          try simp only [Act.put, List.setIfInBounds_toArray, List.set_cons_zero, List.set_cons_succ]
          iterate 4
            refine wpTreeW_take (v := ?_) rfl (by kernel_rfl) (fun w hSw => ?_) ?_
            rotate_left 1
            · obtain ⟨j0, j1, j2, j3, j4, j5, j6, j7, j8, j9, ja, jb, jc⟩ := hSw
              go_simp
              with_reducible rfl
            simp only [Act.put, List.setIfInBounds_toArray, List.set_cons_zero, List.set_cons_succ]
          obtain ⟨m0, m1, m2, m3, m4, m5⟩ := cells6 hM9.rm (k := k) (by rw [HML.out]; exact hk) (by rw [HML.out]; omega)
          have ff := fun i => Row.frozen hM9.rm i
          refine wpTreeW_one rfl (fun K hK => ⟨by kernel_rfl, ?_⟩)
          go_simp
          refine hK _ (put6 w9 gM (k * 6) Y) (HS.out _ (fun b hb => (put6_heap (by omega)).trans ((hb9.block b (by omega)).trans (hh1 b)))) ?_
          clear hK K
          refine wpTreeW_done ?_
          try simp only [Act.put, List.setIfInBounds_toArray, List.set_cons_zero, List.set_cons_succ]
          have fin := hM9.setM (k := k) (by rw [HML.out]; exact hk) Y
          rw [HMSU.out] at fin
          go_wp2_with fail
          go_meet
          case rel => exact fin
        case rest =>
          clear hMk
          replace hMk := hcut
          clear hcut
          go_upto_region 14 with fail
          go_cut [] from 69 to 91 (fun W' => Mk w t ⟨some ⟨b0, o0, none⟩, cl, some ⟨b1, o1, none⟩, cr, some ⟨b2, o2, none⟩, crl, some ⟨b3, o3, none⟩, crr, at_, ct⟩ (some ⟨bi, oi, none⟩) s.length c base gM gO (midsTo key s t (k + 1)) (layTo s.length default t.r (outAt key s t) (k + 1)) (leftsTo t k) (rightsTo t k) W')
          case first =>
            obtain ⟨vl, vr, mx, _, _, _⟩ := hMk.mx
            have tn := hMk.tn
            rw [HXX.out] at tn
            obtain ⟨y0, y1, y2, y3, y4, y5⟩ := cells6 hMk.rm (k := k) (by rw [midsTo_length key s t (by omega)]; exact hk) (by rw [midsTo_length key s t (by omega)]; omega)
            rw [HMAT.out] at y0 y1 y2 y3 y4 y5
            have hS : ∀ w' : World, (∀ b : Nat, b < w.heap.size + 2 ∨ b = gM → w'.heap[b]? = wc.heap[b]?) → w'.cell? ⟨w.heap.size + 1, 1, none⟩ = some (.slice (some ⟨gM, 0, none⟩) s.length s.length) ∧ w'.cell? ⟨w.heap.size + 1, 2, none⟩ = some (.slice (some ⟨gO, 0, none⟩) s.length s.length) ∧ w'.cell? ⟨w.heap.size, 1, none⟩ = some (.slice (some ⟨b1, o1, none⟩) s.length cr) ∧ w'.cell? ⟨w.heap.size, 3, none⟩ = some (.slice (some ⟨b3, o3, none⟩) s.length crr) ∧ w'.cell? ⟨b1, o1 + k, none⟩ = some (.int .i64 (p2 : Int)) ∧ w'.cell? ⟨b3, o3 + k * 3, none⟩ = some (.int .i64 rr.p) ∧ w'.cell? ⟨b3, o3 + k * 3 + 1, none⟩ = some (.int .i64 rr.q) ∧ w'.cell? ⟨b3, o3 + k * 3 + 2, none⟩ = some (.int .i64 rr.r) ∧ w'.cell? ⟨gM, k * 6, none⟩ = some (.int .i64 Y.x.a) ∧ w'.cell? ⟨gM, k * 6 + 1, none⟩ = some (.int .i64 Y.x.b) ∧ w'.cell? ⟨gM, k * 6 + 2, none⟩ = some (.int .i64 Y.y.a) ∧ w'.cell? ⟨gM, k * 6 + 3, none⟩ = some (.int .i64 Y.y.b) ∧ w'.cell? ⟨gM, k * 6 + 4, none⟩ = some (.int .i64 Y.z.a) ∧ w'.cell? ⟨gM, k * 6 + 5, none⟩ = some (.int .i64 Y.z.b) := fun w' hk' => by
              have kk : ∀ (b i : Nat) (v : Value), b < w.heap.size + 2 ∨ b = gM → wc.cell? ⟨b, i, none⟩ = some v → w'.cell? ⟨b, i, none⟩ = some v := fun b i v hb hv => (World.cell?_of_block (w := wc) (hk' b hb)).trans hv
              exact ⟨kk _ _ _ (.inl (by omega)) (mx.cell 1), kk _ _ _ (.inl (by omega)) (mx.cell 2), kk _ _ _ (.inl (by omega)) (tn.cell 1), kk _ _ _ (.inl (by omega)) (tn.cell 3), kk _ _ _ (.inl (by omega)) (LIFT.out _ hMk.b _ _ _ (by omega) d1), kk _ _ _ (.inl (by omega)) (LIFT.out _ hMk.b _ _ _ (by omega) g3), kk _ _ _ (.inl (by omega)) (LIFT.out _ hMk.b _ _ _ (by omega) g4), kk _ _ _ (.inl (by omega)) (LIFT.out _ hMk.b _ _ _ (by omega) g5), kk _ _ _ (.inr rfl) y0, kk _ _ _ (.inr rfl) y1, kk _ _ _ (.inr rfl) y2, kk _ _ _ (.inr rfl) y3, kk _ _ _ (.inr rfl) y4, kk _ _ _ (.inr rfl) y5⟩
            refine wp_region_treeW (.take 0 (.take 1 (.take 2 (.take 3 (.take 4 (.take 5 (.take 6 (.take 7 (.take 8 (.take 9 (.take 10 (.take 11 (.take 12 (.take 13 (.take 14 (.take 15 (.take 16 (.take 17 (.one 18 (.take 19 (.take 20 (.take 21 (.take 22 (.one 23 .done)))))))))))))))))))))))) (fun w' => w'.cell? ⟨w.heap.size + 1, 1, none⟩ = some (.slice (some ⟨gM, 0, none⟩) s.length s.length) ∧ w'.cell? ⟨w.heap.size + 1, 2, none⟩ = some (.slice (some ⟨gO, 0, none⟩) s.length s.length) ∧ w'.cell? ⟨w.heap.size, 1, none⟩ = some (.slice (some ⟨b1, o1, none⟩) s.length cr) ∧ w'.cell? ⟨w.heap.size, 3, none⟩ = some (.slice (some ⟨b3, o3, none⟩) s.length crr) ∧ w'.cell? ⟨b1, o1 + k, none⟩ = some (.int .i64 (p2 : Int)) ∧ w'.cell? ⟨b3, o3 + k * 3, none⟩ = some (.int .i64 rr.p) ∧ w'.cell? ⟨b3, o3 + k * 3 + 1, none⟩ = some (.int .i64 rr.q) ∧ w'.cell? ⟨b3, o3 + k * 3 + 2, none⟩ = some (.int .i64 rr.r) ∧ w'.cell? ⟨gM, k * 6, none⟩ = some (.int .i64 Y.x.a) ∧ w'.cell? ⟨gM, k * 6 + 1, none⟩ = some (.int .i64 Y.x.b) ∧ w'.cell? ⟨gM, k * 6 + 2, none⟩ = some (.int .i64 Y.y.a) ∧ w'.cell? ⟨gM, k * 6 + 3, none⟩ = some (.int .i64 Y.y.b) ∧ w'.cell? ⟨gM, k * 6 + 4, none⟩ = some (.int .i64 Y.z.a) ∧ w'.cell? ⟨gM, k * 6 + 5, none⟩ = some (.int .i64 Y.z.b)) (by kernel_rfl) (by kernel_rfl) (fun _ _ d _ _ h => by cases d <;> exact h) (hS _ (fun _ _ => rfl)) ?_
            have hM1 := hMk.drew
            have hh1 : ∀ b : Nat, wc.drew.heap[b]? = wc.heap[b]? := fun b => rfl
            have HS := Lib.hid hS
            clear hS mx tn hMk y0 y1 y2 y3 y4 y5
            generalize wc.drew = W1 at *
            iterate 18
              refine wpTreeW_take (v := ?_) rfl (by kernel_rfl) (fun w hSw => ?_) ?_
              rotate_left 1
              · obtain ⟨j0, j1, j2, j3, j4, j5, j6, j7, j8, j9, ja, jb, jc, jd⟩ := hSw
                go_simp
                with_reducible rfl
              simp only [Act.put, List.setIfInBounds_toArray, List.set_cons_zero, List.set_cons_succ]
            refine wpTreeW_one rfl (fun K hK => ⟨by kernel_rfl, ?_⟩)
            go_simp
            go_at_call 25
            refine (A2.out _).mono ?_
            rintro e w9 ⟨rfl, hb9⟩
            have hM9 := hM1.below hb9
            have hz9 := hM1.z
            refine hK _ _ (HS.out _ (fun b hb => (hb9.block b (by omega)).trans (hh1 b))) ?_
            clear hK K
            try simp only [Act.put, List.setIfInBounds_toArray, List.set_cons_zero, List.set_cons_succ]
            iterate 4
              refine wpTreeW_take (v := ?_) rfl (by kernel_rfl) (fun w hSw => ?_) ?_
              rotate_left 1
              · obtain ⟨j0, j1, j2, j3, j4, j5, j6, j7, j8, j9, ja, jb, jc, jd⟩ := hSw
                go_simp
                with_reducible rfl
              simp only [Act.put, List.setIfInBounds_toArray, List.set_cons_zero, List.set_cons_succ]
            obtain ⟨m0, m1, m2, m3, m4, m5⟩ := cells6 hM9.ro (k := p2) (by rw [HOL.out]; omega) (by rw [HOL.out]; omega)
            have ff := fun i => Row.frozen hM9.ro i
            have hne := hM9.ne
            refine wpTreeW_one rfl (fun K hK => ⟨by kernel_rfl, ?_⟩)
            go_simp
            refine hK _ (put6 w9 gO (p2 * 6) V) (HS.out _ (fun b hb => (put6_heap (by omega)).trans ((hb9.block b (by omega)).trans (hh1 b)))) ?_
            clear hK K
            refine wpTreeW_done ?_
            try simp only [Act.put, List.setIfInBounds_toArray, List.set_cons_zero, List.set_cons_succ]
            have fin := hM9.setO (k := p2) (by rw [HOL.out]; omega) V
            rw [← HLAY.out] at fin
            go_wp2_with fail
            go_meet
            case rel => exact fin
          case rest =>
            clear hMk
            replace hMk := hcut
            clear hcut
            have hx0 := hidx0
            have hx1 := hidx1
            have qh := fun w => halves_any w
            unfold halvesV at qh
            go_wp2_with (go_at_call 26; (with_reducible refine (qh _).mono ?_); rintro e w15 ⟨rfl, hb15⟩)
            replace hMk := hMk.below hb15
            clear hb15 qh
            refine wp_loop_rounds 3 ?_
            rw [rounds_succ]
            go_upto_region 19 with (go_at_call 49; (with_reducible refine (half2_any _ _).mono ?_); rintro e w16 ⟨rfl, rfl⟩)
            obtain ⟨vl, vr, mx0, ol0, or0, dj⟩ := hMk.mx
            have hownq : ∀ b, vl.ownBlock = some b → b < w15.heap.size := fun b e => (ol0.lt b e).2
            have OWNQ := Lib.hid hownq
            have hM17 := hMk.below (below_alloc' _ (.cells hvL.toArray 71))
            have mx := mx0.alloc (.cells hvL.toArray 71)
            have ol := World.ownsRow.alloc ol0 (.cells hvL.toArray 71)
            have orr := World.ownsRow.alloc or0 (.cells hvL.toArray 71)
            have rq := Row.new w15 71 hvL
            have hbq := hMk.z
            obtain ⟨W17, hW17⟩ : ∃ W17, w15.alloc (.cells hvL.toArray 71) = W17 := ⟨_, rfl⟩
            rw [hW17] at hM17 rq mx ol orr
            refine (show _ = W17 from hW17) ▸ ?_
            clear hW17 hMk mx0 ol0 or0 hownq
            generalize w15.heap.size = gq at *
            have tn := hM17.tn
            rw [HXX.out] at tn
            have hqz := rq.lt
            have hbz := hM17.z
            have hS : ∀ w' : World, (∀ b : Nat, b < w.heap.size + 2 ∨ b = gq → w'.heap[b]? = W17.heap[b]?) → w'.cell? ⟨w.heap.size + 1, 3, none⟩ = some vl ∧ w'.cell? ⟨gq, 0, none⟩ = some (.string ⟨#[108, 101, 102, 116]⟩) ∧ w'.cell? ⟨gq, 1, none⟩ = some (.func (Fn.func 48) #[] #[]) ∧ w'.cell? ⟨w.heap.size, 0, none⟩ = some (.slice (some ⟨b0, o0, none⟩) s.length cl) ∧ w'.cell? ⟨w.heap.size, 1, none⟩ = some (.slice (some ⟨b1, o1, none⟩) s.length cr) ∧ w'.cell? ⟨w.heap.size, 2, none⟩ = some (.slice (some ⟨b2, o2, none⟩) s.length crl) ∧ w'.cell? ⟨w.heap.size, 3, none⟩ = some (.slice (some ⟨b3, o3, none⟩) s.length crr) ∧ w'.cell? ⟨w.heap.size, 4, none⟩ = some (.slice at_ s.length ct) := fun w' hk' => by
              have kk : ∀ (b i : Nat) (v : Value), b < w.heap.size + 2 ∨ b = gq → W17.cell? ⟨b, i, none⟩ = some v → w'.cell? ⟨b, i, none⟩ = some v := fun b i v hb hv => (World.cell?_of_block (w := W17) (hk' b hb)).trans hv
              exact ⟨kk _ _ _ (.inl (by omega)) (mx.cell 3), kk _ _ _ (.inr rfl) (rq.cell 0), kk _ _ _ (.inr rfl) (rq.cell 1), kk _ _ _ (.inl (by omega)) (tn.cell 0), kk _ _ _ (.inl (by omega)) (tn.cell 1), kk _ _ _ (.inl (by omega)) (tn.cell 2), kk _ _ _ (.inl (by omega)) (tn.cell 3), kk _ _ _ (.inl (by omega)) (tn.cell 4)⟩
            refine wp_region_tree 15 (.take 0 (.take 1 (.take 2 (.take 3 (.take 4 (.take 5 (.take 6 (.take 7 (.take 8 (.take 9 (.one 10 (.one 11 (.one 12 (.one 13 (.take 14 .done))))))))))))))) (fun w' => w'.cell? ⟨w.heap.size + 1, 3, none⟩ = some vl ∧ w'.cell? ⟨gq, 0, none⟩ = some (.string ⟨#[108, 101, 102, 116]⟩) ∧ w'.cell? ⟨gq, 1, none⟩ = some (.func (Fn.func 48) #[] #[]) ∧ w'.cell? ⟨w.heap.size, 0, none⟩ = some (.slice (some ⟨b0, o0, none⟩) s.length cl) ∧ w'.cell? ⟨w.heap.size, 1, none⟩ = some (.slice (some ⟨b1, o1, none⟩) s.length cr) ∧ w'.cell? ⟨w.heap.size, 2, none⟩ = some (.slice (some ⟨b2, o2, none⟩) s.length crl) ∧ w'.cell? ⟨w.heap.size, 3, none⟩ = some (.slice (some ⟨b3, o3, none⟩) s.length crr) ∧ w'.cell? ⟨w.heap.size, 4, none⟩ = some (.slice at_ s.length ct)) (by kernel_rfl) (by kernel_rfl) (fun _ _ d _ _ h => by cases d <;> exact h) (hS _ (fun _ _ => rfl)) ?_
            have hM1 := hM17.drew
            have hh1 : ∀ b : Nat, W17.drew.heap[b]? = W17.heap[b]? := fun b => rfl
            have hz1 : W17.drew.heap.size = W17.heap.size := rfl
            have mx1 : Row W17.drew _ _ _ := mx
            have ol1 : ownD base W17.drew vl _ := ol
            have or1 : ownD base W17.drew vr _ := orr
            have HS := Lib.hid hS
            clear hS mx tn rq ol orr hM17
            generalize W17.drew = W18 at *
            iterate 10
              refine wpTree_take (v := ?_) rfl (by kernel_rfl) (fun w hSw => ?_) ?_
              rotate_left 1
              · obtain ⟨j0, j1, j2, j3, j4, j5, j6, j7⟩ := hSw
                go_simp
                with_reducible rfl
              simp only [Act.put, List.setIfInBounds_toArray, List.set_cons_zero, List.set_cons_succ]
            refine wpTree_one rfl (fun K hK => ⟨by kernel_rfl, ?_⟩)
            go_simp
            go_at_call 48
            refine (Q4.out k hk _ hM1.b).mono ?_
            rintro e w19 ⟨rfl, hb19⟩
            refine hK _ _ (HS.out _ (fun b hb => (hb19.block b (by omega)).trans (hh1 b))) ?_
            clear hK K
            try simp only [Act.put, List.setIfInBounds_toArray, List.set_cons_zero, List.set_cons_succ]
            refine wpTree_one rfl (fun K hK => ⟨by kernel_rfl, ?_⟩)
            go_simp
            go_at_call 27
            refine (Q6.out k hk _ (hM1.b.trans (hb19.mono hM1.b.size))).mono ?_
            rintro e w20 ⟨rfl, hb20⟩
            have hb21 := hb19.trans (hb20.mono hb19.size)
            refine hK _ _ (HS.out _ (fun b hb => (hb21.block b (by omega)).trans (hh1 b))) ?_
            clear hK K
            try simp only [Act.put, List.setIfInBounds_toArray, List.set_cons_zero, List.set_cons_succ]
            have hdl : (comN tagL (ogL t k)).length = 32 := comN_length _ _
            have hsn : leftsTo t (k + 1) = leftsTo t k ++ [comN tagL (ogL t k)] := map_range_snoc _ _
            obtain ⟨D, hD⟩ : ∃ D, comN tagL (ogL t k) = D := ⟨_, rfl⟩
            rw [hD] at hdl hsn ⊢
            have HSN := Lib.hid hsn
            clear hD hsn
            refine wpTree_one rfl (fun K hK => ⟨by kernel_rfl, ?_⟩)
            refine wp_one 30 58 _ rfl (D.map bv).toArray rfl (one_dg D hdl _) ?_
            have hb22 := hb21.alloc hb21.size (.cells (D.map bv).toArray 58)
            have rd := Row.new w20 58 (D.map bv)
            refine hK _ _ (HS.out _ (fun b hb => (hb22.block b (by omega)).trans (hh1 b))) ?_
            clear hK K
            try simp only [Act.put, List.setIfInBounds_toArray, List.set_cons_zero, List.set_cons_succ]
            have hM22 := hM1.below hb22
            have mx22 := mx1.below hb22 mx1.lt
            have ol22 := ol1.kept (grown_below' hb22 none) (own_free fun _ _ e => by cases e)
            have or22 := or1.kept (grown_below' hb22 none) (own_free fun _ _ e => by cases e)
            have hLl : Hid ((leftsTo t k).length = k) := by show _ = _; simp [leftsTo]
            refine wpTree_one rfl (fun K hK => ⟨by kernel_rfl, ?_⟩)
            refine wp_append_lies _ _ _ 30 rfl base 58 id0 (.agg (List.replicate 32 (Value.int .u8 0)).toArray) 32 32 Tryz.underlying30 hid hidz0 hidz1 hidz2 (by simp [Value.cells]) (by decide) _ _ _ rfl ol22 ⟨w20.heap.size, 0, none⟩ 1 1 (D.map bv) rfl (by rw [List.length_map, hdl]) (cells_row rd) (fun u hu => by obtain ⟨y, _, rfl⟩ := List.mem_map.1 hu; rfl) (by decide) (by rw [hLl.out]; unfold maxLen; omega) (by rw [hLl.out]; omega) hM22.z _ rfl ?_
            intro g1 cap1 w23 hown23 hgr hat hlt23
            have hz22 : W18.heap.size ≤ (w20.alloc (.cells (D.map bv).toArray 58)).heap.size := hb22.size
            have hof : ∀ b : Nat, b < base ∨ b = gq → w23.heap[b]? = (w20.alloc (.cells (D.map bv).toArray 58)).heap[b]? := fun b hb => hgr.block b (by have := hM22.z; omega) (fun e => by
              have h1 := (ol1.lt b e.symm).1
              have h2 := OWNQ.out b e.symm
              omega)
            have hwb : w.heap.size + 2 ≤ base := by have := hM22.hm; omega
            refine hK _ _ (HS.out _ (fun b hb => (hof b (by omega)).trans ((hb22.block b (by omega)).trans (hh1 b)))) ?_
            clear hK K
            try simp only [Act.put, List.setIfInBounds_toArray, List.set_cons_zero, List.set_cons_succ]
            refine wpTree_take (v := ?_) rfl (by kernel_rfl) (fun w hSw => ?_) ?_
            rotate_left 1
            · obtain ⟨j0, j1, j2, j3, j4, j5, j6, j7⟩ := hSw
              go_simp
              with_reducible rfl
            simp only [Act.put, List.setIfInBounds_toArray, List.set_cons_zero, List.set_cons_succ]
            refine wpTree_done ?_
            simp only [List.drop_succ_cons, List.drop_zero]
            have mx23 : Row w23 _ _ _ := mx22.keep (hof _ (by omega))
            have hc23 : w23.cell? ⟨w.heap.size + 1, 3, none⟩ = some _ := mx23.cell 3
            have hf23 := Row.frozen mx23 3
            have hMn := Mk.grownL hM22 mx22 ol22 or22 dj hown23 hgr (hat.imp id (fun e => Nat.le_of_eq e.symm))
            rw [← HSN.out] at hMn
            clear mx23 mx22 ol22 or22 ol1 or1 mx1 hown23 hgr hat hM22 hM1 hof dj
            go_wp2_with fail
            obtain ⟨W24, hWn⟩ : ∃ W24, w23.setCell ⟨w.heap.size + 1, 3, none⟩ (.slice (some ⟨g1, 0, none⟩) ((leftsTo t k).length + 1) cap1) = W24 := ⟨_, rfl⟩
            rw [hWn] at hMn
            refine (show _ = W24 from hWn) ▸ ?_
            have hMk := hMn
            clear hWn hMn hc23 hf23 rd hb19 hb20 hb21 hb22 hLl OWNQ HSN hz22 hh1 HS
            rw [rounds_succ]
            go_upto_region 19 with (go_at_call 52; (with_reducible refine (half5_any _ _).mono ?_); rintro e w16 ⟨rfl, rfl⟩)
            obtain ⟨vl, vr, mx0, ol0, or0, dj⟩ := hMk.mx
            have hownq : ∀ b, vr.ownBlock = some b → b < W24.heap.size := fun b e => (or0.lt b e).2
            have OWNQ := Lib.hid hownq
            have hM27 := hMk.below (below_alloc' _ (.cells hvR.toArray 71))
            have mx := mx0.alloc (.cells hvR.toArray 71)
            have ol := World.ownsRow.alloc ol0 (.cells hvR.toArray 71)
            have orr := World.ownsRow.alloc or0 (.cells hvR.toArray 71)
            have rq := Row.new W24 71 hvR
            have hbq := hMk.z
            obtain ⟨W17, hW17⟩ : ∃ W17, W24.alloc (.cells hvR.toArray 71) = W17 := ⟨_, rfl⟩
            rw [hW17] at hM27 rq mx ol orr
            refine (show _ = W17 from hW17) ▸ ?_
            clear hW17 hMk mx0 ol0 or0 hownq
            generalize W24.heap.size = gq at *
            have tn := hM27.tn
            rw [HXX.out] at tn
            have hqz := rq.lt
            have hbz := hM27.z
            have hS : ∀ w' : World, (∀ b : Nat, b < w.heap.size + 2 ∨ b = gq → w'.heap[b]? = W17.heap[b]?) → w'.cell? ⟨w.heap.size + 1, 4, none⟩ = some vr ∧ w'.cell? ⟨gq, 0, none⟩ = some (.string ⟨#[114, 105, 103, 104, 116]⟩) ∧ w'.cell? ⟨gq, 1, none⟩ = some (.func (Fn.func 51) #[] #[]) ∧ w'.cell? ⟨w.heap.size, 0, none⟩ = some (.slice (some ⟨b0, o0, none⟩) s.length cl) ∧ w'.cell? ⟨w.heap.size, 1, none⟩ = some (.slice (some ⟨b1, o1, none⟩) s.length cr) ∧ w'.cell? ⟨w.heap.size, 2, none⟩ = some (.slice (some ⟨b2, o2, none⟩) s.length crl) ∧ w'.cell? ⟨w.heap.size, 3, none⟩ = some (.slice (some ⟨b3, o3, none⟩) s.length crr) ∧ w'.cell? ⟨w.heap.size, 4, none⟩ = some (.slice at_ s.length ct) := fun w' hk' => by
              have kk : ∀ (b i : Nat) (v : Value), b < w.heap.size + 2 ∨ b = gq → W17.cell? ⟨b, i, none⟩ = some v → w'.cell? ⟨b, i, none⟩ = some v := fun b i v hb hv => (World.cell?_of_block (w := W17) (hk' b hb)).trans hv
              exact ⟨kk _ _ _ (.inl (by omega)) (mx.cell 4), kk _ _ _ (.inr rfl) (rq.cell 0), kk _ _ _ (.inr rfl) (rq.cell 1), kk _ _ _ (.inl (by omega)) (tn.cell 0), kk _ _ _ (.inl (by omega)) (tn.cell 1), kk _ _ _ (.inl (by omega)) (tn.cell 2), kk _ _ _ (.inl (by omega)) (tn.cell 3), kk _ _ _ (.inl (by omega)) (tn.cell 4)⟩
            refine wp_region_tree 15 (.take 0 (.take 1 (.take 2 (.take 3 (.take 4 (.take 5 (.take 6 (.take 7 (.take 8 (.take 9 (.one 10 (.one 11 (.one 12 (.one 13 (.take 14 .done))))))))))))))) (fun w' => w'.cell? ⟨w.heap.size + 1, 4, none⟩ = some vr ∧ w'.cell? ⟨gq, 0, none⟩ = some (.string ⟨#[114, 105, 103, 104, 116]⟩) ∧ w'.cell? ⟨gq, 1, none⟩ = some (.func (Fn.func 51) #[] #[]) ∧ w'.cell? ⟨w.heap.size, 0, none⟩ = some (.slice (some ⟨b0, o0, none⟩) s.length cl) ∧ w'.cell? ⟨w.heap.size, 1, none⟩ = some (.slice (some ⟨b1, o1, none⟩) s.length cr) ∧ w'.cell? ⟨w.heap.size, 2, none⟩ = some (.slice (some ⟨b2, o2, none⟩) s.length crl) ∧ w'.cell? ⟨w.heap.size, 3, none⟩ = some (.slice (some ⟨b3, o3, none⟩) s.length crr) ∧ w'.cell? ⟨w.heap.size, 4, none⟩ = some (.slice at_ s.length ct)) (by kernel_rfl) (by kernel_rfl) (fun _ _ d _ _ h => by cases d <;> exact h) (hS _ (fun _ _ => rfl)) ?_
            have hM1 := hM27.drew
            have hh1 : ∀ b : Nat, W17.drew.heap[b]? = W17.heap[b]? := fun b => rfl
            have hz1 : W17.drew.heap.size = W17.heap.size := rfl
            have mx1 : Row W17.drew _ _ _ := mx
            have ol1 : ownD base W17.drew vl _ := ol
            have or1 : ownD base W17.drew vr _ := orr
            have HS := Lib.hid hS
            clear hS mx tn rq ol orr hM27
            generalize W17.drew = W18 at *
            iterate 10
              refine wpTree_take (v := ?_) rfl (by kernel_rfl) (fun w hSw => ?_) ?_
              rotate_left 1
              · obtain ⟨j0, j1, j2, j3, j4, j5, j6, j7⟩ := hSw
                go_simp
                with_reducible rfl
              simp only [Act.put, List.setIfInBounds_toArray, List.set_cons_zero, List.set_cons_succ]
            refine wpTree_one rfl (fun K hK => ⟨by kernel_rfl, ?_⟩)
            go_simp
            go_at_call 51
            refine (Q5.out k hk _ hM1.b).mono ?_
            rintro e w19 ⟨rfl, hb19⟩
            refine hK _ _ (HS.out _ (fun b hb => (hb19.block b (by omega)).trans (hh1 b))) ?_
            clear hK K
            try simp only [Act.put, List.setIfInBounds_toArray, List.set_cons_zero, List.set_cons_succ]
            refine wpTree_one rfl (fun K hK => ⟨by kernel_rfl, ?_⟩)
            go_simp
            go_at_call 27
            refine (Q7.out k hk _ (hM1.b.trans (hb19.mono hM1.b.size))).mono ?_
            rintro e w20 ⟨rfl, hb20⟩
            have hb21 := hb19.trans (hb20.mono hb19.size)
            refine hK _ _ (HS.out _ (fun b hb => (hb21.block b (by omega)).trans (hh1 b))) ?_
            clear hK K
            try simp only [Act.put, List.setIfInBounds_toArray, List.set_cons_zero, List.set_cons_succ]
            have hdl : (comN tagR (ogR t k)).length = 32 := comN_length _ _
            have hsn : rightsTo t (k + 1) = rightsTo t k ++ [comN tagR (ogR t k)] := map_range_snoc _ _
            obtain ⟨D, hD⟩ : ∃ D, comN tagR (ogR t k) = D := ⟨_, rfl⟩
            rw [hD] at hdl hsn ⊢
            have HSN := Lib.hid hsn
            clear hD hsn
            refine wpTree_one rfl (fun K hK => ⟨by kernel_rfl, ?_⟩)
            refine wp_one 30 58 _ rfl (D.map bv).toArray rfl (one_dg D hdl _) ?_
            have hb22 := hb21.alloc hb21.size (.cells (D.map bv).toArray 58)
            have rd := Row.new w20 58 (D.map bv)
            refine hK _ _ (HS.out _ (fun b hb => (hb22.block b (by omega)).trans (hh1 b))) ?_
            clear hK K
            try simp only [Act.put, List.setIfInBounds_toArray, List.set_cons_zero, List.set_cons_succ]
            have hM22 := hM1.below hb22
            have mx22 := mx1.below hb22 mx1.lt
            have ol22 := ol1.kept (grown_below' hb22 none) (own_free fun _ _ e => by cases e)
            have or22 := or1.kept (grown_below' hb22 none) (own_free fun _ _ e => by cases e)
            have hLl : Hid ((rightsTo t k).length = k) := by show _ = _; simp [rightsTo]
            refine wpTree_one rfl (fun K hK => ⟨by kernel_rfl, ?_⟩)
            refine wp_append_lies _ _ _ 30 rfl base 58 id0 (.agg (List.replicate 32 (Value.int .u8 0)).toArray) 32 32 Tryz.underlying30 hid hidz0 hidz1 hidz2 (by simp [Value.cells]) (by decide) _ _ _ rfl or22 ⟨w20.heap.size, 0, none⟩ 1 1 (D.map bv) rfl (by rw [List.length_map, hdl]) (cells_row rd) (fun u hu => by obtain ⟨y, _, rfl⟩ := List.mem_map.1 hu; rfl) (by decide) (by rw [hLl.out]; unfold maxLen; omega) (by rw [hLl.out]; omega) hM22.z _ rfl ?_
            intro g1 cap1 w23 hown23 hgr hat hlt23
            have hz22 : W18.heap.size ≤ (w20.alloc (.cells (D.map bv).toArray 58)).heap.size := hb22.size
            have hof : ∀ b : Nat, b < base ∨ b = gq → w23.heap[b]? = (w20.alloc (.cells (D.map bv).toArray 58)).heap[b]? := fun b hb => hgr.block b (by have := hM22.z; omega) (fun e => by
              have h1 := (or1.lt b e.symm).1
              have h2 := OWNQ.out b e.symm
              omega)
            have hwb : w.heap.size + 2 ≤ base := by have := hM22.hm; omega
            refine hK _ _ (HS.out _ (fun b hb => (hof b (by omega)).trans ((hb22.block b (by omega)).trans (hh1 b)))) ?_
            clear hK K
            try simp only [Act.put, List.setIfInBounds_toArray, List.set_cons_zero, List.set_cons_succ]
            refine wpTree_take (v := ?_) rfl (by kernel_rfl) (fun w hSw => ?_) ?_
            rotate_left 1
            · obtain ⟨j0, j1, j2, j3, j4, j5, j6, j7⟩ := hSw
              go_simp
              with_reducible rfl
            simp only [Act.put, List.setIfInBounds_toArray, List.set_cons_zero, List.set_cons_succ]
            refine wpTree_done ?_
            simp only [List.drop_succ_cons, List.drop_zero]
            have mx23 : Row w23 _ _ _ := mx22.keep (hof _ (by omega))
            have hc23 : w23.cell? ⟨w.heap.size + 1, 4, none⟩ = some _ := mx23.cell 4
            have hf23 := Row.frozen mx23 4
            have hMn := Mk.grownR hM22 mx22 ol22 or22 dj hown23 hgr (hat.imp id (fun e => Nat.le_of_eq e.symm))
            rw [← HSN.out] at hMn
            clear mx23 mx22 ol22 or22 ol1 or1 mx1 hown23 hgr hat hM22 hM1 hof dj
            go_wp2_with fail
            obtain ⟨W34, hWn⟩ : ∃ W24, w23.setCell ⟨w.heap.size + 1, 4, none⟩ (.slice (some ⟨g1, 0, none⟩) ((rightsTo t k).length + 1) cap1) = W24 := ⟨_, rfl⟩
            rw [hWn] at hMn
            refine (show _ = W34 from hWn) ▸ ?_
            have hMk := hMn
            clear hWn hMn hc23 hf23 rd hb19 hb20 hb21 hb22 hLl OWNQ HSN hz22 hh1 HS
            rw [rounds_succ]
            go_wp2_with fail
            go_roundg (gk - 1)
            case measure => omega
            case rel => exact ⟨k + 1, by first | rfl | go_num, by omega, hMk⟩
      · obtain rfl : k = s.length := by omega
        obtain ⟨vl, vr, mx, ol, orr, dj⟩ := hMk.mx
        have hLn : (leftsTo t s.length).length = s.length := by simp [leftsTo]
        have hRn : (rightsTo t s.length).length = s.length := by simp [rightsTo]
        have sl : SlG 32 encD wr wr.heap.size vl (leftsTo t s.length) := own_slM ol (fun d hd => by
          obtain ⟨j, _, rfl⟩ := List.mem_map.1 hd
          unfold encD; rw [List.length_map]; exact comN_length _ _) rfl (by rw [hLn]; omega)
        have sr : SlG 32 encD wr wr.heap.size vr (rightsTo t s.length) := own_slM orr (fun d hd => by
          obtain ⟨j, _, rfl⟩ := List.mem_map.1 hd
          unfold encD; rw [List.length_map]; exact comN_length _ _) rfl (by rw [hRn]; omega)
        have sm : SlS wr wr.heap.size (.slice (some ⟨gM, 0, none⟩) s.length s.length) (midsTo key s t s.length) := by
          have := Row.sl (c := s.length) (m := 6) hMk.rm (fun _ => rfl) (by rw [midsTo_length key s t (Nat.le_refl _)]; omega) hMk.rm.lt
          rwa [midsTo_length key s t (Nat.le_refl _)] at this
        have so : SlS wr wr.heap.size (.slice (some ⟨gO, 0, none⟩) s.length s.length) (layTo s.length default t.r (outAt key s t) s.length) := by
          have := Row.sl (c := s.length) (m := 6) hMk.ro (fun _ => rfl) (by rw [layTo_length]; omega) hMk.ro.lt
          rwa [layTo_length] at this
        have si : SlS wr wr.heap.size (.slice A s.length c) s := (HSS.out.below hMk.b).mono hMk.b.size
        have hbW := hMk.b
        obtain ⟨_, al', cl', rfl, _⟩ := id sl
        obtain ⟨_, ar', cr', rfl, _⟩ := id sr
        rw [hLn] at sl mx
        rw [hRn] at sr mx
        have m0 : wr.cell? ⟨w.heap.size + 1, 0, none⟩ = some _ := mx.cell 0
        have m1 : wr.cell? ⟨w.heap.size + 1, 1, none⟩ = some _ := mx.cell 1
        have m2 : wr.cell? ⟨w.heap.size + 1, 2, none⟩ = some _ := mx.cell 2
        have m3 : wr.cell? ⟨w.heap.size + 1, 3, none⟩ = some _ := mx.cell 3
        have m4 : wr.cell? ⟨w.heap.size + 1, 4, none⟩ = some _ := mx.cell 4
        have ff := fun i => Row.frozen mx i
        have SLL := Lib.hid sl
        have SRR := Lib.hid sr
        have SMM := Lib.hid sm
        have SOO := Lib.hid so
        have SII := Lib.hid si
        have HMK := Lib.hid hMk
        have MXX := Lib.hid mx
        clear sl sr sm so si hLn hRn ol orr dj hMk
        go_wp2_with fail
        have hw : (((((wr.setCell ⟨w.heap.size + 1, 0, none⟩ (.slice A s.length c)).setCell ⟨w.heap.size + 1, 1, none⟩ (.slice (some ⟨gM, 0, none⟩) s.length s.length)).setCell ⟨w.heap.size + 1, 2, none⟩ (.slice (some ⟨gO, 0, none⟩) s.length s.length)).setCell ⟨w.heap.size + 1, 3, none⟩ (.slice al' s.length cl')).setCell ⟨w.heap.size + 1, 4, none⟩ (.slice ar' s.length cr')) = wr := by
          rw [row_self MXX.out (i := 0) rfl, row_self MXX.out (i := 1) rfl, row_self MXX.out (i := 2) rfl, row_self MXX.out (i := 3) rfl, row_self MXX.out (i := 4) rfl]
        rw [hw]
        have l1 : (mixTo key s t s.length).m.length = s.length := midsTo_length key s t (Nat.le_refl _)
        have l2 : (mixTo key s t s.length).o.length = s.length := layTo_length _ _ _ _ _
        have l3 : (mixTo key s t s.length).l.length = s.length := by show (leftsTo t s.length).length = _; simp [leftsTo]
        have l4 : (mixTo key s t s.length).r.length = s.length := by show (rightsTo t s.length).length = _; simp [rightsTo]
        refine bodyPost_ret (v := .tuple #[.agg #[.slice A s.length c, .slice (some ⟨gM, 0, none⟩) s.length s.length, .slice (some ⟨gO, 0, none⟩) s.length s.length, .slice al' s.length cl', .slice ar' s.length cr'], .int .i64 0]) (by simp [results, Tryz.results7, go_sem, m0, m1, m2, m3, m4]) rfl ?_
        refine ⟨⟨A, c, some ⟨gM, 0, none⟩, s.length, some ⟨gO, 0, none⟩, s.length, al', cl', ar', cr'⟩, ?_, hbW, ⟨SII.out, ?_, ?_, ?_, ?_⟩⟩
        · unfold MxA.cells
          rw [l1, l2, l3, l4]
          rfl
        · rw [l1]; exact SMM.out
        · rw [l2]; exact SOO.out
        · rw [l3]; exact SLL.out
        · rw [l4]; exact SRR.out
end Go.Proofs.YthboebhghaabnaaGreatDoor

set_option linter.unusedSimpArgs false
set_option linter.unusedVariables false
namespace Go.Proofs.YthboebhghaabnaaGreatDoor
open Go.RowKit Fk Sha
/-! A shuffle is made: the ways out ahead. -/
def nilMxA : MxA := ⟨none, 0, none, 0, none, 0, none, 0, none, 0⟩
theorem nil_mx (w : World) (B0 : Nat) : MxS w B0 nilMxA zMx := ⟨SlG.nil_ _ _, SlG.nil_ _ _, SlG.nil_ _ _, SlG.nil_ _ _, SlG.nil_ _ _⟩
set_option maxRecDepth 100000 in
set_option maxHeartbeats 4000000 in
theorem make_no0 (key : Int) (s : List Se) (t : Tn) (x : TnA) (A : Option Addr) (c : Nat) (w : World) (f0 : vld key = false) :
    Calls Tryz.prog 7 #[.int .i64 key, .slice A s.length c, .agg (x.cells t).toArray] w fun e w' => e = .returned (.tuple #[.agg #[.slice none 0 0, .slice none 0 0, .slice none 0 0, .slice none 0 0, .slice none 0 0], .int .i64 90]) ∧ Below w.heap.size w w' := by
  have hB := (below_alloc' w (.cells (x.cells t).toArray 27)).alloc (by simp) (.cells #[.slice none 0 0, .slice none 0 0, .slice none 0 0, .slice none 0 0, .slice none 0 0] 32)
  have r0 := (Row.new w 27 (x.cells t)).alloc (.cells #[.slice none 0 0, .slice none 0 0, .slice none 0 0, .slice none 0 0, .slice none 0 0] 32)
  have r1 : Row ((w.alloc (.cells (x.cells t).toArray 27)).alloc (.cells #[.slice none 0 0, .slice none 0 0, .slice none 0 0, .slice none 0 0, .slice none 0 0] 32)) (w.heap.size + 1) 32 [.slice none 0 0, .slice none 0 0, .slice none 0 0, .slice none 0 0, .slice none 0 0] := rowZ (by simp) _ [.slice none 0 0, .slice none 0 0, .slice none 0 0, .slice none 0 0, .slice none 0 0]
  obtain ⟨W, hW⟩ : ∃ W, (w.alloc (.cells (x.cells t).toArray 27)).alloc (.cells #[.slice none 0 0, .slice none 0 0, .slice none 0 0, .slice none 0 0, .slice none 0 0] 32) = W := ⟨_, rfl⟩
  rw [hW] at hB r0 r1
  have q1 := fun w => valid_any key w
  rw [f0] at q1
  have Q1 := Lib.hid q1
  obtain ⟨al, cl, ar, cr, arl, crl, arr, crr, at_, ct⟩ := x
  unfold TnA.cells at r0 hW ⊢
  simp only at r0 hW ⊢
  replace hW : (w.alloc (.cells #[.slice al t.l.length cl, .slice ar t.r.length cr, .slice arl t.rl.length crl, .slice arr t.rr.length crr, .slice at_ t.s.length ct] 27)).alloc (.cells #[.slice none 0 0, .slice none 0 0, .slice none 0 0, .slice none 0 0, .slice none 0 0] 32) = W := hW
  have c0 : W.cell? ⟨w.heap.size, 0, none⟩ = some _ := r0.cell 0
  have c1 : W.cell? ⟨w.heap.size, 1, none⟩ = some _ := r0.cell 1
  have c2 : W.cell? ⟨w.heap.size, 2, none⟩ = some _ := r0.cell 2
  have c3 : W.cell? ⟨w.heap.size, 3, none⟩ = some _ := r0.cell 3
  have c4 : W.cell? ⟨w.heap.size, 4, none⟩ = some _ := r0.cell 4
  have hlt := r0.lt
  have hlt1 := r1.lt
  clear q1 f0 r0
  go_enter Tryz.func7, Tryz.ntmps7
  go_upto_region 1 with fail
  try rw [hW]
  clear hW
  go_upto_region 2 with (first
    | (go_at_call 22; (with_reducible refine (Q1.out _).mono ?_); rintro e w1 ⟨rfl, rfl⟩))
  have m0 : W.cell? ⟨w.heap.size + 1, 0, none⟩ = some _ := r1.cell 0
  have m1 : W.cell? ⟨w.heap.size + 1, 1, none⟩ = some _ := r1.cell 1
  have m2 : W.cell? ⟨w.heap.size + 1, 2, none⟩ = some _ := r1.cell 2
  have m3 : W.cell? ⟨w.heap.size + 1, 3, none⟩ = some _ := r1.cell 3
  have m4 : W.cell? ⟨w.heap.size + 1, 4, none⟩ = some _ := r1.cell 4
  have ff := fun i => Row.frozen r1 i
  have MXX := Lib.hid r1
  go_wp2_with fail
  have hw : (((((W.setCell ⟨w.heap.size + 1, 0, none⟩ (.slice none 0 0)).setCell ⟨w.heap.size + 1, 1, none⟩ (.slice none 0 0)).setCell ⟨w.heap.size + 1, 2, none⟩ (.slice none 0 0)).setCell ⟨w.heap.size + 1, 3, none⟩ (.slice none 0 0)).setCell ⟨w.heap.size + 1, 4, none⟩ (.slice none 0 0)) = W := by
    rw [row_self MXX.out (i := 0) rfl, row_self MXX.out (i := 1) rfl, row_self MXX.out (i := 2) rfl, row_self MXX.out (i := 3) rfl, row_self MXX.out (i := 4) rfl]
  rw [hw]
  exact bodyPost_ret (v := .tuple #[.agg #[.slice none 0 0, .slice none 0 0, .slice none 0 0, .slice none 0 0, .slice none 0 0], .int .i64 90]) (by simp [results, Tryz.results7, go_sem, m0, m1, m2, m3, m4]) rfl ⟨rfl, hB⟩
set_option maxRecDepth 100000 in
set_option maxHeartbeats 4000000 in
theorem make_no1 (key : Int) (s : List Se) (t : Tn) (x : TnA) (A : Option Addr) (c : Nat) (w : World) (f0 : vld key = true) (f1 : 64 < s.length) :
    Calls Tryz.prog 7 #[.int .i64 key, .slice A s.length c, .agg (x.cells t).toArray] w fun e w' => e = .returned (.tuple #[.agg #[.slice none 0 0, .slice none 0 0, .slice none 0 0, .slice none 0 0, .slice none 0 0], .int .i64 2]) ∧ Below w.heap.size w w' := by
  have hB := (below_alloc' w (.cells (x.cells t).toArray 27)).alloc (by simp) (.cells #[.slice none 0 0, .slice none 0 0, .slice none 0 0, .slice none 0 0, .slice none 0 0] 32)
  have r0 := (Row.new w 27 (x.cells t)).alloc (.cells #[.slice none 0 0, .slice none 0 0, .slice none 0 0, .slice none 0 0, .slice none 0 0] 32)
  have r1 : Row ((w.alloc (.cells (x.cells t).toArray 27)).alloc (.cells #[.slice none 0 0, .slice none 0 0, .slice none 0 0, .slice none 0 0, .slice none 0 0] 32)) (w.heap.size + 1) 32 [.slice none 0 0, .slice none 0 0, .slice none 0 0, .slice none 0 0, .slice none 0 0] := rowZ (by simp) _ [.slice none 0 0, .slice none 0 0, .slice none 0 0, .slice none 0 0, .slice none 0 0]
  obtain ⟨W, hW⟩ : ∃ W, (w.alloc (.cells (x.cells t).toArray 27)).alloc (.cells #[.slice none 0 0, .slice none 0 0, .slice none 0 0, .slice none 0 0, .slice none 0 0] 32) = W := ⟨_, rfl⟩
  rw [hW] at hB r0 r1
  have q1 := fun w => valid_any key w
  rw [f0] at q1
  have Q1 := Lib.hid q1
  have s1 : ((64 : Int) < s.length) := by omega
  obtain ⟨al, cl, ar, cr, arl, crl, arr, crr, at_, ct⟩ := x
  unfold TnA.cells at r0 hW ⊢
  simp only at r0 hW ⊢
  replace hW : (w.alloc (.cells #[.slice al t.l.length cl, .slice ar t.r.length cr, .slice arl t.rl.length crl, .slice arr t.rr.length crr, .slice at_ t.s.length ct] 27)).alloc (.cells #[.slice none 0 0, .slice none 0 0, .slice none 0 0, .slice none 0 0, .slice none 0 0] 32) = W := hW
  have c0 : W.cell? ⟨w.heap.size, 0, none⟩ = some _ := r0.cell 0
  have c1 : W.cell? ⟨w.heap.size, 1, none⟩ = some _ := r0.cell 1
  have c2 : W.cell? ⟨w.heap.size, 2, none⟩ = some _ := r0.cell 2
  have c3 : W.cell? ⟨w.heap.size, 3, none⟩ = some _ := r0.cell 3
  have c4 : W.cell? ⟨w.heap.size, 4, none⟩ = some _ := r0.cell 4
  have hlt := r0.lt
  have hlt1 := r1.lt
  clear q1 f0 f1 r0
  go_enter Tryz.func7, Tryz.ntmps7
  go_upto_region 1 with fail
  try rw [hW]
  clear hW
  go_upto_region 4 with (first
    | (go_at_call 22; (with_reducible refine (Q1.out _).mono ?_); rintro e w1 ⟨rfl, rfl⟩))
  have m0 : W.cell? ⟨w.heap.size + 1, 0, none⟩ = some _ := r1.cell 0
  have m1 : W.cell? ⟨w.heap.size + 1, 1, none⟩ = some _ := r1.cell 1
  have m2 : W.cell? ⟨w.heap.size + 1, 2, none⟩ = some _ := r1.cell 2
  have m3 : W.cell? ⟨w.heap.size + 1, 3, none⟩ = some _ := r1.cell 3
  have m4 : W.cell? ⟨w.heap.size + 1, 4, none⟩ = some _ := r1.cell 4
  have ff := fun i => Row.frozen r1 i
  have MXX := Lib.hid r1
  go_wp2_with fail
  have hw : (((((W.setCell ⟨w.heap.size + 1, 0, none⟩ (.slice none 0 0)).setCell ⟨w.heap.size + 1, 1, none⟩ (.slice none 0 0)).setCell ⟨w.heap.size + 1, 2, none⟩ (.slice none 0 0)).setCell ⟨w.heap.size + 1, 3, none⟩ (.slice none 0 0)).setCell ⟨w.heap.size + 1, 4, none⟩ (.slice none 0 0)) = W := by
    rw [row_self MXX.out (i := 0) rfl, row_self MXX.out (i := 1) rfl, row_self MXX.out (i := 2) rfl, row_self MXX.out (i := 3) rfl, row_self MXX.out (i := 4) rfl]
  rw [hw]
  exact bodyPost_ret (v := .tuple #[.agg #[.slice none 0 0, .slice none 0 0, .slice none 0 0, .slice none 0 0, .slice none 0 0], .int .i64 2]) (by simp [results, Tryz.results7, go_sem, m0, m1, m2, m3, m4]) rfl ⟨rfl, hB⟩
set_option maxRecDepth 100000 in
set_option maxHeartbeats 4000000 in
theorem make_no2 (key : Int) (s : List Se) (t : Tn) (x : TnA) (A : Option Addr) (c : Nat) (w : World) (f0 : vld key = true) (f1 : s.length ≤ 64) (hs : SlS w w.heap.size (.slice A s.length c) s) (f2 : s.all okS = false) :
    Calls Tryz.prog 7 #[.int .i64 key, .slice A s.length c, .agg (x.cells t).toArray] w fun e w' => e = .returned (.tuple #[.agg #[.slice none 0 0, .slice none 0 0, .slice none 0 0, .slice none 0 0, .slice none 0 0], .int .i64 100]) ∧ Below w.heap.size w w' := by
  have hB := (below_alloc' w (.cells (x.cells t).toArray 27)).alloc (by simp) (.cells #[.slice none 0 0, .slice none 0 0, .slice none 0 0, .slice none 0 0, .slice none 0 0] 32)
  have r0 := (Row.new w 27 (x.cells t)).alloc (.cells #[.slice none 0 0, .slice none 0 0, .slice none 0 0, .slice none 0 0, .slice none 0 0] 32)
  have r1 : Row ((w.alloc (.cells (x.cells t).toArray 27)).alloc (.cells #[.slice none 0 0, .slice none 0 0, .slice none 0 0, .slice none 0 0, .slice none 0 0] 32)) (w.heap.size + 1) 32 [.slice none 0 0, .slice none 0 0, .slice none 0 0, .slice none 0 0, .slice none 0 0] := rowZ (by simp) _ [.slice none 0 0, .slice none 0 0, .slice none 0 0, .slice none 0 0, .slice none 0 0]
  obtain ⟨W, hW⟩ : ∃ W, (w.alloc (.cells (x.cells t).toArray 27)).alloc (.cells #[.slice none 0 0, .slice none 0 0, .slice none 0 0, .slice none 0 0, .slice none 0 0] 32) = W := ⟨_, rfl⟩
  rw [hW] at hB r0 r1
  have q1 := fun w => valid_any key w
  rw [f0] at q1
  have Q1 := Lib.hid q1
  have s1 : ¬ ((64 : Int) < s.length) := by omega
  have q2 := fun (w' : World) (hb' : Below w.heap.size w w') => formed_any s (.slice A s.length c) w' ((hs.below hb').mono hb'.size)
  rw [f2] at q2
  have Q2 := Lib.hid q2
  obtain ⟨al, cl, ar, cr, arl, crl, arr, crr, at_, ct⟩ := x
  unfold TnA.cells at r0 hW ⊢
  simp only at r0 hW ⊢
  replace hW : (w.alloc (.cells #[.slice al t.l.length cl, .slice ar t.r.length cr, .slice arl t.rl.length crl, .slice arr t.rr.length crr, .slice at_ t.s.length ct] 27)).alloc (.cells #[.slice none 0 0, .slice none 0 0, .slice none 0 0, .slice none 0 0, .slice none 0 0] 32) = W := hW
  have c0 : W.cell? ⟨w.heap.size, 0, none⟩ = some _ := r0.cell 0
  have c1 : W.cell? ⟨w.heap.size, 1, none⟩ = some _ := r0.cell 1
  have c2 : W.cell? ⟨w.heap.size, 2, none⟩ = some _ := r0.cell 2
  have c3 : W.cell? ⟨w.heap.size, 3, none⟩ = some _ := r0.cell 3
  have c4 : W.cell? ⟨w.heap.size, 4, none⟩ = some _ := r0.cell 4
  have hlt := r0.lt
  have hlt1 := r1.lt
  clear q1 f0 q2 f2 hs f1 r0
  go_enter Tryz.func7, Tryz.ntmps7
  go_upto_region 1 with fail
  try rw [hW]
  clear hW
  go_upto_region 6 with (first
    | (go_at_call 22; (with_reducible refine (Q1.out _).mono ?_); rintro e w1 ⟨rfl, rfl⟩)
    | (go_at_call 23; (with_reducible refine (Q2.out _ hB).mono ?_); rintro e w2 ⟨rfl, hb2⟩; have hB2 := hB.trans (hb2.mono hB.size); have z0 := r1.below hb2 hlt1; have d0 : w2.cell? ⟨w.heap.size, 0, none⟩ = _ := (hb2.cell (p := ⟨w.heap.size, 0, none⟩) hlt).trans c0; have d1 : w2.cell? ⟨w.heap.size, 1, none⟩ = _ := (hb2.cell (p := ⟨w.heap.size, 1, none⟩) hlt).trans c1; have d2 : w2.cell? ⟨w.heap.size, 2, none⟩ = _ := (hb2.cell (p := ⟨w.heap.size, 2, none⟩) hlt).trans c2; have d3 : w2.cell? ⟨w.heap.size, 3, none⟩ = _ := (hb2.cell (p := ⟨w.heap.size, 3, none⟩) hlt).trans c3; have d4 : w2.cell? ⟨w.heap.size, 4, none⟩ = _ := (hb2.cell (p := ⟨w.heap.size, 4, none⟩) hlt).trans c4))
  have m0 : w2.cell? ⟨w.heap.size + 1, 0, none⟩ = some _ := z0.cell 0
  have m1 : w2.cell? ⟨w.heap.size + 1, 1, none⟩ = some _ := z0.cell 1
  have m2 : w2.cell? ⟨w.heap.size + 1, 2, none⟩ = some _ := z0.cell 2
  have m3 : w2.cell? ⟨w.heap.size + 1, 3, none⟩ = some _ := z0.cell 3
  have m4 : w2.cell? ⟨w.heap.size + 1, 4, none⟩ = some _ := z0.cell 4
  have ff := fun i => Row.frozen z0 i
  have MXX := Lib.hid z0
  go_wp2_with fail
  have hw : (((((w2.setCell ⟨w.heap.size + 1, 0, none⟩ (.slice none 0 0)).setCell ⟨w.heap.size + 1, 1, none⟩ (.slice none 0 0)).setCell ⟨w.heap.size + 1, 2, none⟩ (.slice none 0 0)).setCell ⟨w.heap.size + 1, 3, none⟩ (.slice none 0 0)).setCell ⟨w.heap.size + 1, 4, none⟩ (.slice none 0 0)) = w2 := by
    rw [row_self MXX.out (i := 0) rfl, row_self MXX.out (i := 1) rfl, row_self MXX.out (i := 2) rfl, row_self MXX.out (i := 3) rfl, row_self MXX.out (i := 4) rfl]
  rw [hw]
  exact bodyPost_ret (v := .tuple #[.agg #[.slice none 0 0, .slice none 0 0, .slice none 0 0, .slice none 0 0, .slice none 0 0], .int .i64 100]) (by simp [results, Tryz.results7, go_sem, m0, m1, m2, m3, m4]) rfl ⟨rfl, hB2⟩
set_option maxRecDepth 100000 in
set_option maxHeartbeats 4000000 in
theorem make_no3 (key : Int) (s : List Se) (t : Tn) (x : TnA) (A : Option Addr) (c : Nat) (w : World) (f0 : vld key = true) (f1 : s.length ≤ 64) (hs : SlS w w.heap.size (.slice A s.length c) s) (f2 : s.all okS = true) (h : TnS w w.heap.size x t) (f3 : rightB t s.length = false) :
    Calls Tryz.prog 7 #[.int .i64 key, .slice A s.length c, .agg (x.cells t).toArray] w fun e w' => e = .returned (.tuple #[.agg #[.slice none 0 0, .slice none 0 0, .slice none 0 0, .slice none 0 0, .slice none 0 0], .int .i64 140]) ∧ Below w.heap.size w w' := by
  have hB := (below_alloc' w (.cells (x.cells t).toArray 27)).alloc (by simp) (.cells #[.slice none 0 0, .slice none 0 0, .slice none 0 0, .slice none 0 0, .slice none 0 0] 32)
  have r0 := (Row.new w 27 (x.cells t)).alloc (.cells #[.slice none 0 0, .slice none 0 0, .slice none 0 0, .slice none 0 0, .slice none 0 0] 32)
  have r1 : Row ((w.alloc (.cells (x.cells t).toArray 27)).alloc (.cells #[.slice none 0 0, .slice none 0 0, .slice none 0 0, .slice none 0 0, .slice none 0 0] 32)) (w.heap.size + 1) 32 [.slice none 0 0, .slice none 0 0, .slice none 0 0, .slice none 0 0, .slice none 0 0] := rowZ (by simp) _ [.slice none 0 0, .slice none 0 0, .slice none 0 0, .slice none 0 0, .slice none 0 0]
  obtain ⟨W, hW⟩ : ∃ W, (w.alloc (.cells (x.cells t).toArray 27)).alloc (.cells #[.slice none 0 0, .slice none 0 0, .slice none 0 0, .slice none 0 0, .slice none 0 0] 32) = W := ⟨_, rfl⟩
  rw [hW] at hB r0 r1
  have q1 := fun w => valid_any key w
  rw [f0] at q1
  have Q1 := Lib.hid q1
  have s1 : ¬ ((64 : Int) < s.length) := by omega
  have q2 := fun (w' : World) (hb' : Below w.heap.size w w') => formed_any s (.slice A s.length c) w' ((hs.below hb').mono hb'.size)
  rw [f2] at q2
  have Q2 := Lib.hid q2
  have q3 := fun (w' : World) (hb' : Below w.heap.size w w') => right_any t x s.length w' ((h.below hb').mono hb'.size)
  rw [f3] at q3
  obtain ⟨al, cl, ar, cr, arl, crl, arr, crr, at_, ct⟩ := x
  unfold TnA.cells at r0 hW q3 ⊢
  simp only at r0 hW q3 ⊢
  have Q3 := Lib.hid q3
  replace hW : (w.alloc (.cells #[.slice al t.l.length cl, .slice ar t.r.length cr, .slice arl t.rl.length crl, .slice arr t.rr.length crr, .slice at_ t.s.length ct] 27)).alloc (.cells #[.slice none 0 0, .slice none 0 0, .slice none 0 0, .slice none 0 0, .slice none 0 0] 32) = W := hW
  have c0 : W.cell? ⟨w.heap.size, 0, none⟩ = some _ := r0.cell 0
  have c1 : W.cell? ⟨w.heap.size, 1, none⟩ = some _ := r0.cell 1
  have c2 : W.cell? ⟨w.heap.size, 2, none⟩ = some _ := r0.cell 2
  have c3 : W.cell? ⟨w.heap.size, 3, none⟩ = some _ := r0.cell 3
  have c4 : W.cell? ⟨w.heap.size, 4, none⟩ = some _ := r0.cell 4
  have hlt := r0.lt
  have hlt1 := r1.lt
  clear q1 f0 q2 f2 hs f1 r0 q3 h
  go_enter Tryz.func7, Tryz.ntmps7
  go_upto_region 1 with fail
  try rw [hW]
  clear hW
  go_upto_region 8 with (first
    | (go_at_call 22; (with_reducible refine (Q1.out _).mono ?_); rintro e w1 ⟨rfl, rfl⟩)
    | (go_at_call 23; (with_reducible refine (Q2.out _ hB).mono ?_); rintro e w2 ⟨rfl, hb2⟩; have hB2 := hB.trans (hb2.mono hB.size); have z0 := r1.below hb2 hlt1; have d0 : w2.cell? ⟨w.heap.size, 0, none⟩ = _ := (hb2.cell (p := ⟨w.heap.size, 0, none⟩) hlt).trans c0; have d1 : w2.cell? ⟨w.heap.size, 1, none⟩ = _ := (hb2.cell (p := ⟨w.heap.size, 1, none⟩) hlt).trans c1; have d2 : w2.cell? ⟨w.heap.size, 2, none⟩ = _ := (hb2.cell (p := ⟨w.heap.size, 2, none⟩) hlt).trans c2; have d3 : w2.cell? ⟨w.heap.size, 3, none⟩ = _ := (hb2.cell (p := ⟨w.heap.size, 3, none⟩) hlt).trans c3; have d4 : w2.cell? ⟨w.heap.size, 4, none⟩ = _ := (hb2.cell (p := ⟨w.heap.size, 4, none⟩) hlt).trans c4)
    | (go_at_call 24; (with_reducible refine (Q3.out _ hB2).mono ?_); rintro e w3 ⟨rfl, hb3⟩; have hB3 := hB2.trans (hb3.mono hB2.size); have z1 := z0.below hb3 z0.lt))
  have m0 : w3.cell? ⟨w.heap.size + 1, 0, none⟩ = some _ := z1.cell 0
  have m1 : w3.cell? ⟨w.heap.size + 1, 1, none⟩ = some _ := z1.cell 1
  have m2 : w3.cell? ⟨w.heap.size + 1, 2, none⟩ = some _ := z1.cell 2
  have m3 : w3.cell? ⟨w.heap.size + 1, 3, none⟩ = some _ := z1.cell 3
  have m4 : w3.cell? ⟨w.heap.size + 1, 4, none⟩ = some _ := z1.cell 4
  have ff := fun i => Row.frozen z1 i
  have MXX := Lib.hid z1
  go_wp2_with fail
  have hw : (((((w3.setCell ⟨w.heap.size + 1, 0, none⟩ (.slice none 0 0)).setCell ⟨w.heap.size + 1, 1, none⟩ (.slice none 0 0)).setCell ⟨w.heap.size + 1, 2, none⟩ (.slice none 0 0)).setCell ⟨w.heap.size + 1, 3, none⟩ (.slice none 0 0)).setCell ⟨w.heap.size + 1, 4, none⟩ (.slice none 0 0)) = w3 := by
    rw [row_self MXX.out (i := 0) rfl, row_self MXX.out (i := 1) rfl, row_self MXX.out (i := 2) rfl, row_self MXX.out (i := 3) rfl, row_self MXX.out (i := 4) rfl]
  rw [hw]
  exact bodyPost_ret (v := .tuple #[.agg #[.slice none 0 0, .slice none 0 0, .slice none 0 0, .slice none 0 0, .slice none 0 0], .int .i64 140]) (by simp [results, Tryz.results7, go_sem, m0, m1, m2, m3, m4]) rfl ⟨rfl, hB3⟩
theorem make_any (key : Int) (s : List Se) (t : Tn) (x : TnA) (v : Value) (w : World) (hT : TabS w) (h : TnS w w.heap.size x t) (hs : SlS w w.heap.size v s) (hok : OkTn t) :
    Calls Tryz.prog 7 #[.int .i64 key, v, .agg (x.cells t).toArray] w fun e w' => ∃ y : MxA, e = .returned (.tuple #[.agg (y.cells (mixC key s t)).toArray, .int .i64 (mixE key s t)]) ∧ Below w.heap.size w w' ∧ MxS w' w'.heap.size y (mixC key s t) := by
  obtain ⟨_, A, c, rfl, _⟩ := id hs
  have hE : mixE key s t = if vld key then (if s.length ≤ 64 then (if s.all okS then (if rightB t s.length then 0 else 140) else 100) else 2) else 90 := rfl
  have hC : mixC key s t = if mixE key s t = 0 then mixTo key s t s.length else zMx := rfl
  have fin : ∀ n : Int, mixE key s t = n → n ≠ 0 → (Calls Tryz.prog 7 #[.int .i64 key, .slice A s.length c, .agg (x.cells t).toArray] w fun e w' => e = .returned (.tuple #[.agg #[.slice none 0 0, .slice none 0 0, .slice none 0 0, .slice none 0 0, .slice none 0 0], .int .i64 n]) ∧ Below w.heap.size w w') →
      Calls Tryz.prog 7 #[.int .i64 key, .slice A s.length c, .agg (x.cells t).toArray] w fun e w' => ∃ y : MxA, e = .returned (.tuple #[.agg (y.cells (mixC key s t)).toArray, .int .i64 (mixE key s t)]) ∧ Below w.heap.size w w' ∧ MxS w' w'.heap.size y (mixC key s t) := by
    intro n hn h0 hc
    rw [hC, hn, if_neg h0]
    refine hc.mono ?_
    rintro e w' ⟨rfl, hb⟩
    exact ⟨nilMxA, rfl, hb, nil_mx _ _⟩
  cases f0 : vld key with
  | false => rw [f0, if_neg (by decide)] at hE; exact fin _ hE (by decide) (make_no0 key s t x A c w f0)
  | true =>
    rw [f0, if_pos rfl] at hE
    by_cases f1 : s.length ≤ 64
    · rw [if_pos f1] at hE
      cases f2 : s.all okS with
      | false => rw [f2, if_neg (by decide)] at hE; exact fin _ hE (by decide) (make_no2 key s t x A c w f0 f1 hs f2)
      | true =>
        rw [f2, if_pos rfl] at hE
        cases f3 : rightB t s.length with
        | false => rw [f3, if_neg (by decide)] at hE; exact fin _ hE (by decide) (make_no3 key s t x A c w f0 f1 hs f2 h f3)
        | true =>
          rw [f3, if_pos rfl] at hE
          rw [hC, hE, if_pos rfl]
          exact make_main key s t x A c w hT h hs hok hE
    · rw [if_neg f1] at hE
      exact fin _ hE (by decide) (make_no1 key s t x A c w f0 (by omega))
end Go.Proofs.YthboebhghaabnaaGreatDoor
