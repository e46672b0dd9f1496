import Derived.Test.YthckledagggoiaaGreatDoorZMg
import Derived.Test.YthckledagggoiaaGreatDoorZPv
import Derived.Test.YthckledagggoiaaGreatDoorZEnQ
import Derived.Test.YthckledagggoiaaGreatDoorZMapIn
set_option linter.unusedSimpArgs false
set_option linter.unusedVariables false
namespace Go.Proofs.YthckledagggoiaaGreatDoor
open Go.RowKit Go.Shelf Fk
attribute [local go_sem] Oper.semAt_some
/-! The registry: the entries that stand. -/

def zeroE : En := ⟨0, 0, 0, 0, 0, 0, 0, 0⟩
def updE (g : Int × Int → Option En) (p : Int × Int) (y : En) : Int × Int → Option En := fun x => if x = p then some y else g x
def takesB (g : Int × Int → Option En) (y : En) : Bool := !(g (y.kind, y.a)).isSome || decide (((g (y.kind, y.a)).getD zeroE).from_ ≤ y.from_)
def stepE (g : Int × Int → Option En) (y : En) : Int × Int → Option En := if takesB g y then updE g (y.kind, y.a) y else g
def lastE (L : List En) : Int × Int → Option En := L.foldl stepE (fun _ => none)
def oneB (y : En) : Bool := y.kind == 1 || y.kind == 2
def keepB (g : Int × Int → Option En) (y : En) : Bool := !oneB y || decide ((g (y.kind, y.a)).getD zeroE = y)
def standL (l : List En) (day time : Int) : List En := (cntL day time l).filter (keepB (lastE (cntL day time l)))
def clockB (day time : Int) : Bool := decide (0 ≤ day) && (decide (0 ≤ time) && (decide (day < 2097152) && decide (time < 2097152)))
def stE (l : List En) (day time : Int) : Int := if chkE l = 0 then (if clockB day time then 0 else 1) else chkE l
noncomputable abbrev valM (g : Int × Int → Option En) : Int × Int → Option Value := fun p => (g p).map En.val
theorem updF_upd (g : Int × Int → Option En) (p : Int × Int) (y : En) : updF (valM g) p y.val = valM (updE g p y) := by
  funext x
  unfold valM updE
  by_cases h : x = p
  · subst h; rw [updF_same, if_pos rfl]; rfl
  · rw [updF_ne _ _ h, if_neg h]
theorem getD_val (g : Int × Int → Option En) (p : Int × Int) : (valM g p).getD zeroE.val = ((g p).getD zeroE).val ∧ (valM g p).isSome = (g p).isSome := by
  unfold valM
  cases g p <;> exact ⟨rfl, rfl⟩
theorem infoE : (Tryz.prog.info? 49).map (fun i => (i.zero, i.size, i.bytes)) = some (some zeroE.val, 8, 64) := by kernel_rfl
theorem cells_new (w : World) (t : TypeId) (vs : List Value) : ∀ j u, vs[j]? = some u → (w.alloc (.cells vs.toArray t)).cell? ((⟨w.heap.size, 0, none⟩ : Addr).add j) = some u := by
  intro j u hj
  have h := (Row.new w t vs).cell j
  rw [show (⟨w.heap.size, 0, none⟩ : Addr).add j = ⟨w.heap.size, j, none⟩ by simp [Addr.add]; omega, h]
  exact hj
theorem ifs8 {α : Type} (o x : En) (t f : α) : (if o.no = x.no then if o.kind = x.kind then if o.a = x.a then if o.b = x.b then if o.from_ = x.from_ then if o.until_ = x.until_ then if o.known = x.known then if o.gone = x.gone then t else f else f else f else f else f else f else f else f) = if o = x then t else f := by
  obtain ⟨a, b, c, d, e, p, q, r⟩ := o
  obtain ⟨a', b', c', d', e', p', q', r'⟩ := x
  by_cases h : (⟨a, b, c, d, e, p, q, r⟩ : En) = ⟨a', b', c', d', e', p', q', r'⟩
  · rw [if_pos h]
    injection h with h1 h2 h3 h4 h5 h6 h7 h8
    simp only [h1, h2, h3, h4, h5, h6, h7, h8, if_true]
  · rw [if_neg h]
    simp only [En.mk.injEq] at h
    repeat' split
    all_goals first | rfl | (exfalso; apply h; refine ⟨?_, ?_, ?_, ?_, ?_, ?_, ?_, ?_⟩ <;> assumption)
theorem lastE_snoc (L : List En) (y : En) : lastE (L ++ [y]) = stepE (lastE L) y := by unfold lastE; rw [List.foldl_append]; rfl
set_option maxRecDepth 100000 in
set_option maxHeartbeats 4000000 in
theorem stand_good (l : List En) (v : Value) (day time : Int) (w : World) (h : SlE w w.heap.size v l) (hc : chkE l = 0) (ht : clockB day time = true) :
    Calls Tryz.prog 76 #[v, .int .i64 day, .int .i64 time] w fun e w' => (∃ x, e = .returned (.tuple #[x, .int .i64 0]) ∧ SlE w' w'.heap.size x (standL l day time)) ∧ Below w.heap.size w w' := by
  have hck := fun (W : World) (hw : Below w.heap.size w W) => rcheckl_any l v W ((h.below hw).mono hw.size)
  rw [hc] at hck
  have HC := Lib.hid hck
  have HS := Lib.hid h
  obtain ⟨hl, A, c, rfl, _⟩ := h
  have hl10 : l.length ≤ 1024 := by
    unfold chkE at hc
    split at hc
    · cases hc
    · omega
  clear hck hc
  unfold clockB at ht
  simp only [Bool.and_eq_true, decide_eq_true_eq] at ht
  obtain ⟨h1, h2, h3, h4⟩ := ht
  obtain ⟨m, hm⟩ : ∃ m, (if time < day then time else day) = m := ⟨_, rfl⟩
  have hm0 : 0 ≤ m := by rw [← hm]; split <;> omega
  have f1 : decide (m < 0) = false := by simp; omega
  obtain ⟨mx, hmx⟩ : ∃ m, (if day < time then time else day) = m := ⟨_, rfl⟩
  have hx0 : mx < 2097152 := by rw [← hmx]; split <;> omega
  have f2 : decide (2097152 ≤ mx) = false := by simp; omega
  have hmm := @run_makeMap Tryz.prog
  refine (callsIn_wide (n := 3)).1 ?_
  refine callsIn_of_wp_marks Tryz.func76 rfl trivial ?_ rfl
  simp only [Tryz.ntmps76, List.size_toArray, List.length_cons, List.length_nil, Nat.reduceAdd, Nat.reduceSub, Array.replicate_succ, Array.replicate_zero, List.push_toArray, List.append_toArray, List.nil_append, List.cons_append]
  gi_wp2_with (first | (refine ⟨trivial, ?_⟩; gi_at_call 125; refine (callsIn_wide.2 (HC.out _ ?hb)).mono ?_; rotate_left; rintro e w1 ⟨rfl, hb1⟩) | (refine ⟨trivial, ?_⟩; gi_at_call 126; refine (callsIn_wide.2 (counting_any _ _ _ _ _ _)).mono ?_; rintro e w' ⟨rfl, rfl⟩))
  case hb => exact (Below.refl _ _).alloc (Nat.le_refl _) _
  clear f1 f2 hm hm0 hmx hx0 HC hmm
  have hz1 := hb1.size
  rw [World.size_alloc] at hz1
  have hB1 : Below w.heap.size w w1 := ((Below.refl w.heap.size w).alloc (Nat.le_refl _) _).trans (hb1.mono (by simp))
  have q6 : Boxed w1 w.heap.size 26 (.slice none 0 0) := (hb1.block _ (by simp)).trans (Boxed.new w _ _)
  clear hb1
  obtain ⟨W0, hW0⟩ : ∃ W0 : World, ((((w1.alloc (Obj.map #[] 0)).alloc (Obj.cells #[Value.map (some w1.heap.size)] 175)).alloc (Obj.cells #[Value.slice A l.length c] 26)).alloc (Obj.cells #[Value.int IntKind.i64 day] 3)).alloc (Obj.cells #[Value.int IntKind.i64 time] 3) = W0 := ⟨_, rfl⟩
  have hz : W0.heap.size = w1.heap.size + 5 := by rw [← hW0]; simp
  have kM : MapK pv W0 w1.heap.size (valM (lastE [])) := by rw [← hW0]; exact ((((MapK.made pv w1).alloc _).alloc _).alloc _).alloc _
  have k9 : Boxed W0 (w1.heap.size + 1) 175 (.map (some w1.heap.size)) := by
    rw [← hW0]; have := Boxed.new (w1.alloc (Obj.map #[] 0)) 175 (.map (some w1.heap.size)); rw [World.size_alloc] at this; exact ((this.alloc _).alloc _).alloc _
  have kL : Boxed W0 (w1.heap.size + 1 + 1) 26 (.slice A l.length c) := by
    rw [← hW0]; have := Boxed.new ((w1.alloc (Obj.map #[] 0)).alloc (Obj.cells #[Value.map (some w1.heap.size)] 175)) 26 (.slice A l.length c); rw [World.size_alloc, World.size_alloc] at this; exact (this.alloc _).alloc _
  have kD : Boxed W0 (w1.heap.size + 1 + 1 + 1) 3 (.int .i64 day) := by
    rw [← hW0]; have := Boxed.new (((w1.alloc (Obj.map #[] 0)).alloc (Obj.cells #[Value.map (some w1.heap.size)] 175)).alloc (Obj.cells #[Value.slice A l.length c] 26)) 3 (.int .i64 day); rw [World.size_alloc, World.size_alloc, World.size_alloc] at this; exact this.alloc _
  have kT : Boxed W0 (w1.heap.size + 1 + 1 + 2) 3 (.int .i64 time) := by
    rw [← hW0]; have := Boxed.new ((((w1.alloc (Obj.map #[] 0)).alloc (Obj.cells #[Value.map (some w1.heap.size)] 175)).alloc (Obj.cells #[Value.slice A l.length c] 26)).alloc (Obj.cells #[Value.int IntKind.i64 day] 3)) 3 (.int .i64 time); rw [World.size_alloc, World.size_alloc, World.size_alloc, World.size_alloc] at this; exact this
  have k6 : Boxed W0 w.heap.size 26 (.slice none 0 0) := by rw [← hW0]; exact ((((q6.alloc _).alloc _).alloc _).alloc _).alloc _
  have hBW : Below w.heap.size w W0 := by rw [← hW0]; exact ((((hB1.alloc hB1.size _).alloc (by simp; omega) _).alloc (by simp; omega) _).alloc (by simp; omega) _).alloc (by simp; omega) _
  have kS : SlE W0 w.heap.size (.slice A l.length c) l := HS.out.below hBW
  rw [hW0]
  have kS0 : SlE w w.heap.size (.slice A l.length c) l := HS.out
  clear hW0 q6 HS hB1
  have hYlt : ∀ r, (r = w1.heap.size + 1 + 1 ∨ r = w1.heap.size + 1 + 1 + 1 ∨ r = w1.heap.size + 1 + 1 + 2 ∨ r < w.heap.size) → r < w1.heap.size + 5 := by intro r h; omega
  obtain ⟨LC, hLC⟩ : ∃ LC, cntL day time l = LC := ⟨_, rfl⟩
  have hseq := fun K hK => cnt_seq l (.slice A l.length c) day time (w1.heap.size + 1 + 1) (w1.heap.size + 1 + 1 + 1) (w1.heap.size + 1 + 1 + 2) K w.heap.size hK 2 (by omega)
  rw [hLC] at hseq
  have hLn : LC.length ≤ 1024 := by rw [← hLC]; exact Nat.le_trans (List.length_filter_le _ _) hl10
  have HS0 := Lib.hid kS0
  clear kS0
  refine wpIn_rangeL (w := W0) rfl (by omega) (gf := 150) (lb := #[.pointer (some ⟨w1.heap.size + 1 + 1, 0, none⟩), .pointer (some ⟨w1.heap.size + 1 + 1 + 1, 0, none⟩), .pointer (some ⟨w1.heap.size + 1 + 1 + 2, 0, none⟩)]) rfl trivial (enters_of Tryz.func150 (by kernel_rfl) rfl)
    (hseq (W0.heap.size + 2) (by omega))
    (fun W hW => ⟨(hW.block _ (by omega)).trans kL, (hW.block _ (by omega)).trans kD, (hW.block _ (by omega)).trans kT, kS.below (hW.mono (by omega))⟩) (by omega) (fun h => h) (fun h => h)
    (fun v hv => by obtain ⟨p, _, rfl⟩ := List.mem_map.1 hv; rfl)
    (fun j W => MapK pv W w1.heap.size (valM (lastE (LC.take j))) ∧ Boxed W (w1.heap.size + 1) 175 (.map (some w1.heap.size)) ∧ Boxed W w.heap.size 26 (.slice none 0 0) ∧ Below w.heap.size w W ∧ W0.heap.size ≤ W.heap.size ∧ SameOn (fun r => r = w1.heap.size + 1 + 1 ∨ r = w1.heap.size + 1 + 1 + 1 ∨ r = w1.heap.size + 1 + 1 + 2 ∨ r < w.heap.size) W0 W)
    (fun cd j W => False)
    (fun j W W' row hs hg hr => ⟨hs.1.keep (hg.block _ hs.1.lt (fun e => by have := (hr _ e.symm).resolve_left (fun h => h); omega)), hs.2.1.kept hg (fun e => by have := (hr _ e.symm).resolve_left (fun h => h); omega), hs.2.2.1.kept hg (fun e => by have := (hr _ e.symm).resolve_left (fun h => h); omega), hs.2.2.2.1.grown hg hs.2.2.2.1.size (fun r e => by have := (hr _ e).resolve_left (fun h => h); omega),
      Nat.le_trans hs.2.2.2.2.1 hg.size, fun r hR => (hg.block r (by have := hYlt r hR; have := hs.2.2.2.2.1; omega) (fun e => by have := (hr _ e.symm).resolve_left (fun h => h); have := hYlt r hR; omega)).trans (hs.2.2.2.2.2 r hR)⟩)
    (fun cd j W W' row h hg hr => h)
    ⟨kM, k9, k6, hBW, Nat.le_refl _, SameOn.refl _ _⟩
    (fun j a' W => ∃ x bx, LC[j]? = some x ∧ W0.heap.size + 2 ≤ bx ∧ Row W bx 49 x.cells ∧ a' = { tmps := #[Value.slice A l.length c, Value.int IntKind.i64 day, Value.int IntKind.i64 time, undef, undef, undef, Value.pointer (some { block := w.heap.size, off := 0 }), Value.int IntKind.i64 0, Value.int IntKind.i64 0, Value.pointer (some { block := (w1.heap.size + 1), off := 0 }), .pointer (some ⟨bx, 0, none⟩), undef, undef, undef, undef, undef, Value.slice A l.length c, Value.int IntKind.i64 0, Value.int IntKind.i64 0, Value.bool false, undef, Value.int IntKind.i64 day, Value.int IntKind.i64 time, Value.int IntKind.i64 m, Value.bool false, Value.bool false, Value.int IntKind.i64 day, Value.int IntKind.i64 time, Value.int IntKind.i64 mx, Value.bool false, Value.bool false, Value.map (some w1.heap.size), Value.slice A l.length c, Value.int IntKind.i64 day, Value.int IntKind.i64 time, Value.func (Fn.func 150) #[] #[Value.pointer (some { block := (w1.heap.size + 1 + 1), off := 0 }), Value.pointer (some { block := (w1.heap.size + 1 + 1 + 1), off := 0 }), Value.pointer (some { block := (w1.heap.size + 1 + 1 + 2), off := 0 })], .agg #[.int .i64 x.no, .int .i64 x.kind, .int .i64 x.a, .int .i64 x.b, .int .i64 x.from_, .int .i64 x.until_, .int .i64 x.known, .int .i64 x.gone], undef, undef, undef, undef, undef, undef, undef, undef, undef, undef, undef, undef, undef, undef, undef, undef, undef, undef, undef, undef, undef, undef, undef, undef, undef, undef, undef, undef, undef, undef, undef, undef, undef, undef, undef, undef, undef, undef, undef, undef, undef, undef, undef, undef, undef, undef, undef, undef, undef, undef, undef, undef, undef, undef], defers := [] })
    (fun j a' _ W W' row ⟨x, bx, hx, hbx, hcx, ha⟩ hg hr => ⟨x, bx, hx, hbx, hcx.keep (hg.block bx hcx.lt (fun e => by have := hr _ e.symm; omega)), ha⟩) ?assign ?body ?done ?stop
  case assign =>
    rintro L j v W K ⟨i1, i2, i3, i4, iz, i5⟩ hv hsz hK
    rw [List.getElem?_map] at hv
    obtain ⟨x, hx, rfl⟩ := Option.map_eq_some_iff.1 hv
    clear hv
    unfold entV En.val
    gi_wp2
    refine hK _ _ (Kept.alloc _ _ hsz) (fun r hr => Below.heap_alloc _ _ r (by have := hYlt r hr; omega)) ⟨i1.alloc _, i2.alloc _, i3.alloc _, i4.alloc i4.size _, by simp; omega, fun r hr => (Below.heap_alloc _ _ r (by have := hYlt r hr; omega)).trans (i5 r hr)⟩ ⟨x, W.heap.size, hx, hsz, Row.new W _ _, rfl⟩
  case body =>
    rintro L j v a' W ⟨i1, i2, i3, i4, iz, i5⟩ ⟨x, bx, hx, hbx, hcx, rfl⟩ hv hsz
    have hts : LC.take (j + 1) = LC.take j ++ [x] := by rw [List.take_add_one, hx]; rfl
    have hsnoc : lastE (LC.take (j + 1)) = stepE (lastE (LC.take j)) x := by rw [hts, lastE_snoc]
    have HSN := Lib.hid hsnoc
    clear hsnoc hts hx hv
    obtain ⟨g, hg⟩ : ∃ g, lastE (LC.take j) = g := ⟨_, rfl⟩
    rw [hg] at i1 HSN
    clear hg
    obtain ⟨d0, d1, d2, d3, d4, d5, d6, d7⟩ := st8e (show Row W bx 49 [.int .i64 x.no, .int .i64 x.kind, .int .i64 x.a, .int .i64 x.b, .int .i64 x.from_, .int .i64 x.until_, .int .i64 x.known, .int .i64 x.gone] from hcx)
    have hcl := hcx.lt
    have c9 := i2.cell
    have l9 := i2.lt
    have e9 : ∀ X Y, ((W.alloc X).alloc Y).cell? ⟨w1.heap.size + 1, 0, none⟩ = some (.map (some w1.heap.size)) := fun X Y => ((i2.alloc X).alloc Y).cell
    have p0 : ∀ Y, ((W.alloc (Obj.cells #[.int .i64 x.kind, .int .i64 x.a] 59)).alloc Y).cell? ⟨W.heap.size, 0, none⟩ = some (.int .i64 x.kind) := fun Y => ((Row.new W 59 [.int .i64 x.kind, .int .i64 x.a]).alloc Y).cell 0
    have p1 : ∀ Y, ((W.alloc (Obj.cells #[.int .i64 x.kind, .int .i64 x.a] 59)).alloc Y).cell? ⟨W.heap.size, 1, none⟩ = some (.int .i64 x.a) := fun Y => ((Row.new W 59 [.int .i64 x.kind, .int .i64 x.a]).alloc Y).cell 1
    have hlk := (i1.alloc (Obj.cells #[.int .i64 x.kind, .int .i64 x.a] 59)).look law_pair Tryz.underlying175 (show (zeroValue 49).run Tryz.prog (W.alloc (Obj.cells #[.int .i64 x.kind, .int .i64 x.a] 59)) = .ok zeroE.val (W.alloc (Obj.cells #[.int .i64 x.kind, .int .i64 x.a] 59)) by kernel_rfl) (x.kind, x.a) true
    rw [if_pos rfl, (getD_val _ _).1, (getD_val _ _).2] at hlk
    have ht : takesB g x = (!(g (x.kind, x.a)).isSome || decide (((g (x.kind, x.a)).getD zeroE).from_ ≤ x.from_)) := rfl
    obtain ⟨o, ho⟩ : ∃ o, (g (x.kind, x.a)).getD zeroE = o := ⟨_, rfl⟩
    obtain ⟨b, hb⟩ : ∃ b, (g (x.kind, x.a)).isSome = b := ⟨_, rfl⟩
    rw [ho, hb] at ht hlk
    unfold En.val pv at hlk
    clear ho hb
    obtain ⟨n0, n1, n2, n3, n4, n5, n6, n7⟩ := st8e (show Row ((W.alloc (Obj.cells #[.int .i64 x.kind, .int .i64 x.a] 59)).alloc (Obj.cells #[.int .i64 o.no, .int .i64 o.kind, .int .i64 o.a, .int .i64 o.b, .int .i64 o.from_, .int .i64 o.until_, .int .i64 o.known, .int .i64 o.gone] 49)) bx 49 [.int .i64 x.no, .int .i64 x.kind, .int .i64 x.a, .int .i64 x.b, .int .i64 x.from_, .int .i64 x.until_, .int .i64 x.known, .int .i64 x.gone] from (hcx.alloc _).alloc _)
    obtain ⟨W2, hrun, m2, g2⟩ := ((i1.alloc (Obj.cells #[.int .i64 x.kind, .int .i64 x.a] 59)).alloc (Obj.cells #[.int .i64 o.no, .int .i64 o.kind, .int .i64 o.a, .int .i64 o.b, .int .i64 o.from_, .int .i64 o.until_, .int .i64 o.known, .int .i64 o.gone] 49)).put law_pair Tryz.underlying175 (x.kind, x.a) x.val
    unfold En.val pv at hrun
    have hA : ∀ X : World, W.heap.size ≤ X.heap.size → Kept W0.heap.size W X → Kept W0.heap.size W X := fun _ _ h => h
    have HM := Lib.hid m2
    have HG := Lib.hid g2
    have HB := Lib.hid i4
    have H5 := Lib.hid i5
    have H1 := Lib.hid i1
    have H2 := Lib.hid i2
    have H3 := Lib.hid i3
    clear m2 g2 i4 i5 i1 i2 i3 hA hcx
    have fin : ∀ X : World, X = (W.alloc (Obj.cells #[.int .i64 x.kind, .int .i64 x.a] 59)).alloc (Obj.cells #[.int .i64 o.no, .int .i64 o.kind, .int .i64 o.a, .int .i64 o.b, .int .i64 o.from_, .int .i64 o.until_, .int .i64 o.known, .int .i64 o.gone] 49) → takesB g x = false → Kept W0.heap.size W X ∧ SameOn (fun r => r = w1.heap.size + 1 + 1 ∨ r = w1.heap.size + 1 + 1 + 1 ∨ r = w1.heap.size + 1 + 1 + 2 ∨ r < w.heap.size) W X ∧ (MapK pv X w1.heap.size (valM (lastE (LC.take (j + 1)))) ∧ Boxed X (w1.heap.size + 1) 175 (.map (some w1.heap.size)) ∧ Boxed X w.heap.size 26 (.slice none 0 0) ∧ Below w.heap.size w X ∧ W0.heap.size ≤ X.heap.size ∧ SameOn (fun r => r = w1.heap.size + 1 + 1 ∨ r = w1.heap.size + 1 + 1 + 1 ∨ r = w1.heap.size + 1 + 1 + 2 ∨ r < w.heap.size) W0 X) := by
      rintro X rfl hf
      have hK : Kept W0.heap.size W ((W.alloc (Obj.cells #[.int .i64 x.kind, .int .i64 x.a] 59)).alloc (Obj.cells #[.int .i64 o.no, .int .i64 o.kind, .int .i64 o.a, .int .i64 o.b, .int .i64 o.from_, .int .i64 o.until_, .int .i64 o.known, .int .i64 o.gone] 49)) := (Kept.alloc _ _ hsz).trans (Kept.alloc _ _ (by simp; omega))
      have hS : SameOn (fun r => r = w1.heap.size + 1 + 1 ∨ r = w1.heap.size + 1 + 1 + 1 ∨ r = w1.heap.size + 1 + 1 + 2 ∨ r < w.heap.size) W ((W.alloc (Obj.cells #[.int .i64 x.kind, .int .i64 x.a] 59)).alloc (Obj.cells #[.int .i64 o.no, .int .i64 o.kind, .int .i64 o.a, .int .i64 o.b, .int .i64 o.from_, .int .i64 o.until_, .int .i64 o.known, .int .i64 o.gone] 49)) := fun r hr => (Below.heap_alloc _ _ r (by have := hYlt r hr; simp; omega)).trans (Below.heap_alloc _ _ r (by have := hYlt r hr; omega))
      refine ⟨hK, hS, ?_, (H2.out.alloc _).alloc _, (H3.out.alloc _).alloc _, (HB.out.alloc HB.out.size _).alloc (by have := HB.out.size; simp; omega) _, Nat.le_trans iz hK.size, H5.out.trans hS⟩
      rw [HSN.out, stepE, if_neg (by rw [hf]; decide)]
      exact (H1.out.alloc _).alloc _
    have fin2 : takesB g x = true → Kept W0.heap.size W W2 ∧ SameOn (fun r => r = w1.heap.size + 1 + 1 ∨ r = w1.heap.size + 1 + 1 + 1 ∨ r = w1.heap.size + 1 + 1 + 2 ∨ r < w.heap.size) W W2 ∧ (MapK pv W2 w1.heap.size (valM (lastE (LC.take (j + 1)))) ∧ Boxed W2 (w1.heap.size + 1) 175 (.map (some w1.heap.size)) ∧ Boxed W2 w.heap.size 26 (.slice none 0 0) ∧ Below w.heap.size w W2 ∧ W0.heap.size ≤ W2.heap.size ∧ SameOn (fun r => r = w1.heap.size + 1 + 1 ∨ r = w1.heap.size + 1 + 1 + 1 ∨ r = w1.heap.size + 1 + 1 + 2 ∨ r < w.heap.size) W0 W2) := by
      intro hf
      have hK : Kept W0.heap.size W ((W.alloc (Obj.cells #[.int .i64 x.kind, .int .i64 x.a] 59)).alloc (Obj.cells #[.int .i64 o.no, .int .i64 o.kind, .int .i64 o.a, .int .i64 o.b, .int .i64 o.from_, .int .i64 o.until_, .int .i64 o.known, .int .i64 o.gone] 49)) := (Kept.alloc _ _ hsz).trans (Kept.alloc _ _ (by simp; omega))
      have hS : SameOn (fun r => r = w1.heap.size + 1 + 1 ∨ r = w1.heap.size + 1 + 1 + 1 ∨ r = w1.heap.size + 1 + 1 + 2 ∨ r < w.heap.size) W ((W.alloc (Obj.cells #[.int .i64 x.kind, .int .i64 x.a] 59)).alloc (Obj.cells #[.int .i64 o.no, .int .i64 o.kind, .int .i64 o.a, .int .i64 o.b, .int .i64 o.from_, .int .i64 o.until_, .int .i64 o.known, .int .i64 o.gone] 49)) := fun r hr => (Below.heap_alloc _ _ r (by have := hYlt r hr; simp; omega)).trans (Below.heap_alloc _ _ r (by have := hYlt r hr; omega))
      have hS2 : SameOn (fun r => r = w1.heap.size + 1 + 1 ∨ r = w1.heap.size + 1 + 1 + 1 ∨ r = w1.heap.size + 1 + 1 + 2 ∨ r < w.heap.size) W W2 := hS.trans (fun r hr => HG.out.block r (by have := hYlt r hr; simp; omega) (fun e => by have := Option.some.inj e; rcases hr with h | h | h | h <;> omega))
      have hBx := (HB.out.alloc HB.out.size (Obj.cells #[.int .i64 x.kind, .int .i64 x.a] 59)).alloc (by have := HB.out.size; simp; omega) (Obj.cells #[.int .i64 o.no, .int .i64 o.kind, .int .i64 o.a, .int .i64 o.b, .int .i64 o.from_, .int .i64 o.until_, .int .i64 o.known, .int .i64 o.gone] 49)
      refine ⟨hK.trans (Kept.grown HG.out (by simp; omega) (fun e => by have := Option.some.inj e; omega) (fun e => by have := Option.some.inj e; omega)), hS2, ?_, ((H2.out.alloc _).alloc _).kept HG.out (fun e => by have := Option.some.inj e; omega), ((H3.out.alloc _).alloc _).kept HG.out (fun e => by have := Option.some.inj e; omega), hBx.grown HG.out hBx.size (fun r e => by have := Option.some.inj e; omega), Nat.le_trans iz (Nat.le_trans hK.size HG.out.size), H5.out.trans hS2⟩
      rw [HSN.out, stepE, if_pos hf, ← updF_upd]
      exact HM.out
    have HF := Lib.hid fin
    have HF2 := Lib.hid fin2
    clear fin fin2
    cases b with
    | false =>
      have hT := ht
      rw [Bool.not_false, Bool.true_or] at hT
      have HR := Lib.hid (HF2.out hT)
      clear hT ht HF HF2
      rw [hz] at HR
      gi_wp2
      first | exact HR.out | (rw [hzV] at HR; exact HR.out)
    | true =>
      rw [Bool.not_true, Bool.false_or] at ht
      by_cases hle : o.from_ ≤ x.from_
      · rw [decide_eq_true hle] at ht
        have HR := Lib.hid (HF2.out ht)
        clear ht HF HF2
        rw [hz] at HR
        gi_wp2
        first | exact HR.out | (rw [hzV] at HR; exact HR.out)
      · rw [decide_eq_false hle] at ht
        have HR := Lib.hid (HF.out _ rfl ht)
        clear ht HF HF2
        rw [hz] at HR
        gi_wp2
        first | exact HR.out | (rw [hzV] at HR; exact HR.out)
  case done =>
    rintro W ⟨i1, i2, i3, i4, iz, i5⟩ hsz hD
    rw [List.length_map, List.take_length] at i1
    obtain ⟨g, hg⟩ : ∃ g, lastE LC = g := ⟨_, rfl⟩
    rw [hg] at i1
    rw [hz] at iz hsz hD
    gi_wp2_with ((refine ⟨trivial, ?_⟩; gi_at_call 126; refine (callsIn_wide.2 (counting_any _ _ _ _ _ _)).mono ?_; rintro e w' ⟨rfl, rfl⟩))
    obtain ⟨V0, hV0⟩ : ∃ V0 : World, ((W.alloc (Obj.cells #[Value.slice A l.length c] 26)).alloc (Obj.cells #[Value.int IntKind.i64 day] 3)).alloc (Obj.cells #[Value.int IntKind.i64 time] 3) = V0 := ⟨_, rfl⟩
    have hzV : V0.heap.size = W.heap.size + 3 := by rw [← hV0]; simp
    have jM : MapK pv V0 w1.heap.size (valM g) := by rw [← hV0]; exact ((i1.alloc _).alloc _).alloc _
    have j9 : Boxed V0 (w1.heap.size + 1) 175 (.map (some w1.heap.size)) := by rw [← hV0]; exact ((i2.alloc _).alloc _).alloc _
    have jL : Boxed V0 W.heap.size 26 (.slice A l.length c) := by rw [← hV0]; exact ((Boxed.new W _ _).alloc _).alloc _
    have jD : Boxed V0 (W.heap.size + 1) 3 (.int .i64 day) := by
      rw [← hV0]; have := Boxed.new (W.alloc (Obj.cells #[Value.slice A l.length c] 26)) 3 (.int .i64 day); rw [World.size_alloc] at this; exact this.alloc _
    have jT : Boxed V0 (W.heap.size + 2) 3 (.int .i64 time) := by
      rw [← hV0]; have := Boxed.new ((W.alloc (Obj.cells #[Value.slice A l.length c] 26)).alloc (Obj.cells #[Value.int IntKind.i64 day] 3)) 3 (.int .i64 time); rw [World.size_alloc, World.size_alloc] at this; exact this
    have j6 : Boxed V0 w.heap.size 26 (.slice none 0 0) := by rw [← hV0]; exact ((i3.alloc _).alloc _).alloc _
    have jB : Below w.heap.size w V0 := by rw [← hV0]; exact ((i4.alloc i4.size _).alloc (by have := i4.size; simp; omega) _).alloc (by have := i4.size; simp; omega) _
    have jX : V0.heap[w1.heap.size + 5]? = some (.deferred (some [])) := by rw [← hV0, Below.heap_alloc _ _ _ (by simp; omega), Below.heap_alloc _ _ _ (by simp; omega), Below.heap_alloc _ _ _ (by omega)]; exact hD
    have jS : SlE V0 w.heap.size (.slice A l.length c) l := HS0.out.below jB
    have jO : V0.ownsRow (V0.heap.size + 2) 49 8 (.slice none 0 0) 0 [] := World.ownsRow_nil _ _ _ _
    rw [hV0]
    clear hV0 i1 i2 i3 i4 i5 hD
    have hseq2 := fun K hK => cnt_seq l (.slice A l.length c) day time W.heap.size (W.heap.size + 1) (W.heap.size + 2) K w.heap.size hK 2 (by omega)
    rw [hLC] at hseq2
    obtain ⟨i0, hi, hz0, hz1, hz2⟩ := info_parts infoE
    have hrE := runE
    refine wpIn_rangeL (w := V0) rfl (by omega) (gf := 150) (lb := #[.pointer (some ⟨W.heap.size, 0, none⟩), .pointer (some ⟨W.heap.size + 1, 0, none⟩), .pointer (some ⟨W.heap.size + 2, 0, none⟩)]) rfl trivial (enters_of Tryz.func150 (by kernel_rfl) rfl)
      (hseq2 (V0.heap.size + 2) (by omega))
      (fun W hW => ⟨(hW.block _ (by omega)).trans jL, (hW.block _ (by omega)).trans jD, (hW.block _ (by omega)).trans jT, jS.below (hW.mono (by omega))⟩) (by omega) (fun h => h) (fun h => h)
      (fun v hv => by obtain ⟨p, _, rfl⟩ := List.mem_map.1 hv; rfl)
      (fun j X => (∃ xv, Boxed X w.heap.size 26 xv ∧ X.ownsRow (V0.heap.size + 2) 49 8 xv ((LC.take j).filter (keepB g)).length (((LC.take j).filter (keepB g)).flatMap En.cells)) ∧ Below w.heap.size w X ∧ V0.heap.size ≤ X.heap.size ∧ (∀ r, r < V0.heap.size → r ≠ w.heap.size → X.heap[r]? = V0.heap[r]?))
      (fun cd j X => False)
      (fun j X X' row hs hgr hr => by
        obtain ⟨⟨xv, b6, ho⟩, hB6, hz6, hk6⟩ := hs
        have hrow : ∀ r, row = some r → r = V0.heap.size + 1 := fun r e => (hr r e).resolve_left (fun h => h)
        exact ⟨⟨xv, b6.kept hgr (fun e => by have := hrow _ e.symm; omega), ho.kept hgr (by
            cases hv : xv.ownBlock with
            | none => exact .inl rfl
            | some q => exact .inr (fun e => by have := hrow _ e.symm; have := (ho.lt q hv).1; omega))⟩,
          hB6.grown hgr hB6.size (fun r e => by have := hrow _ e; omega), Nat.le_trans hz6 hgr.size, fun r h1 h2 => (hgr.block r (by omega) (fun e => by have := hrow _ e.symm; omega)).trans (hk6 r h1 h2)⟩)
      (fun cd j X X' row h hgr hr => h)
      ⟨⟨_, j6, jO⟩, jB, Nat.le_refl _, fun r _ _ => rfl⟩
      (fun j a' X => ∃ x bx, LC[j]? = some x ∧ V0.heap.size + 2 ≤ bx ∧ Row X bx 49 x.cells ∧ a' = { tmps := #[Value.slice A l.length c, Value.int IntKind.i64 day, Value.int IntKind.i64 time, undef, undef, undef, Value.pointer (some { block := w.heap.size, off := 0 }), Value.int IntKind.i64 0, Value.int IntKind.i64 0, Value.pointer (some { block := (w1.heap.size + 1), off := 0 }), undef, undef, undef, undef, .pointer (some ⟨bx, 0, none⟩), undef, Value.slice A l.length c, Value.int IntKind.i64 0, Value.int IntKind.i64 0, Value.bool false, undef, Value.int IntKind.i64 day, Value.int IntKind.i64 time, Value.int IntKind.i64 m, Value.bool false, Value.bool false, Value.int IntKind.i64 day, Value.int IntKind.i64 time, Value.int IntKind.i64 mx, Value.bool false, Value.bool false, Value.map (some w1.heap.size), Value.slice A l.length c, Value.int IntKind.i64 day, Value.int IntKind.i64 time, Value.func (Fn.func 150) #[] #[Value.pointer (some { block := (w1.heap.size + 1 + 1), off := 0 }), Value.pointer (some { block := (w1.heap.size + 1 + 1 + 1), off := 0 }), Value.pointer (some { block := (w1.heap.size + 1 + 1 + 2), off := 0 })], undef, undef, undef, undef, undef, undef, undef, undef, undef, undef, undef, undef, undef, undef, undef, undef, undef, undef, undef, undef, undef, undef, undef, undef, Value.slice A l.length c, Value.int IntKind.i64 day, Value.int IntKind.i64 time, Value.func (Fn.func 150) #[] #[Value.pointer (some { block := W.heap.size, off := 0 }), Value.pointer (some { block := W.heap.size + 1, off := 0 }), Value.pointer (some { block := W.heap.size + 2, off := 0 })], .agg #[.int .i64 x.no, .int .i64 x.kind, .int .i64 x.a, .int .i64 x.b, .int .i64 x.from_, .int .i64 x.until_, .int .i64 x.known, .int .i64 x.gone], undef, undef, undef, undef, undef, undef, undef, undef, undef, undef, undef, undef, undef, undef, undef, undef, undef, undef, undef, undef, undef, undef, undef, undef, undef, undef], defers := [] })
      (fun j a' _ X X' row ⟨x, bx, hx, hbx, hcx, ha⟩ hgr hr => ⟨x, bx, hx, hbx, hcx.keep (hgr.block bx hcx.lt (fun e => by have := hr _ e.symm; omega)), ha⟩) ?assign2 ?body2 ?done2 ?stop2
    case assign2 =>
      rintro L j v X K ⟨⟨xv, b6, ho⟩, hB6, hz6, hk6⟩ hv hsz hK
      rw [List.getElem?_map] at hv
      obtain ⟨x, hx, rfl⟩ := Option.map_eq_some_iff.1 hv
      clear hv
      unfold entV En.val
      gi_wp2
      refine hK _ _ (Kept.alloc _ _ hsz) (fun r hr => Below.heap_alloc _ _ r (by rcases hr with h | h | h | h <;> omega)) ⟨⟨xv, b6.alloc _, ho.alloc _⟩, hB6.alloc hB6.size _, by simp; omega, fun r h1 h2 => (Below.heap_alloc _ _ r (by omega)).trans (hk6 r h1 h2)⟩ ⟨x, X.heap.size, hx, hsz, Row.new X _ _, rfl⟩
    case body2 =>
      rintro L j v a' X ⟨⟨xv, b6, ho⟩, hB6, hz6, hk6⟩ ⟨x, bx, hx, hbx, hcx, rfl⟩ hv hsz
      have hts : LC.take (j + 1) = LC.take j ++ [x] := by rw [List.take_add_one, hx]; rfl
      have hsn : (LC.take (j + 1)).filter (keepB g) = (LC.take j).filter (keepB g) ++ (if keepB g x then [x] else []) := by
        rw [hts, List.filter_append, List.filter_cons, List.filter_nil]
      have hlen : ((LC.take j).filter (keepB g)).length ≤ 1024 := by
        have := List.length_filter_le (keepB g) (LC.take j)
        rw [List.length_take] at this
        omega
      clear hts hx hv
      have hcl := hcx.lt
      have m9 : Boxed X (w1.heap.size + 1) 175 (.map (some w1.heap.size)) := (hk6 _ (by omega) (by omega)).trans j9
      have mM : MapK pv X w1.heap.size (valM g) := jM.keep (hk6 _ (by omega) (by omega))
      have fin : keepB g x = false → postL V0.heap.size (fun r => r = W.heap.size ∨ r = W.heap.size + 1 ∨ r = W.heap.size + 2 ∨ r < w.heap.size) (fun j X => (∃ xv, Boxed X w.heap.size 26 xv ∧ X.ownsRow (V0.heap.size + 2) 49 8 xv ((LC.take j).filter (keepB g)).length (((LC.take j).filter (keepB g)).flatMap En.cells)) ∧ Below w.heap.size w X ∧ V0.heap.size ≤ X.heap.size ∧ (∀ r, r < V0.heap.size → r ≠ w.heap.size → X.heap[r]? = V0.heap[r]?))
        (fun cd j X => False) (j + 1) X .normal { tmps := #[], defers := [] } X.drew := by
        intro hf
        rw [hf, if_neg (by decide), List.append_nil] at hsn
        refine ⟨Kept.drew _ _, fun r _ => rfl, ⟨xv, b6, ?_⟩, hB6.drew, hz6, hk6⟩
        rw [hsn]; exact ho.drew
      have fin2 : ∀ v' w2, keepB g x = true → w2.ownsRow (V0.heap.size + 2) 49 8 v' (((LC.take j).filter (keepB g)).length + 1) (((LC.take j).filter (keepB g)).flatMap En.cells ++ x.cells) → ((X.alloc (Obj.cells #[.int .i64 x.no, .int .i64 x.kind, .int .i64 x.a, .int .i64 x.b, .int .i64 x.from_, .int .i64 x.until_, .int .i64 x.known, .int .i64 x.gone] 49)).drew).grownBy w2 xv.ownBlock →
        postL V0.heap.size (fun r => r = W.heap.size ∨ r = W.heap.size + 1 ∨ r = W.heap.size + 2 ∨ r < w.heap.size) (fun j X => (∃ xv, Boxed X w.heap.size 26 xv ∧ X.ownsRow (V0.heap.size + 2) 49 8 xv ((LC.take j).filter (keepB g)).length (((LC.take j).filter (keepB g)).flatMap En.cells)) ∧ Below w.heap.size w X ∧ V0.heap.size ≤ X.heap.size ∧ (∀ r, r < V0.heap.size → r ≠ w.heap.size → X.heap[r]? = V0.heap[r]?))
        (fun cd j X => False) (j + 1) X .normal { tmps := #[], defers := [] } (w2.setCell ⟨w.heap.size, 0, none⟩ v') := by
        intro v' w2 hf ho2 hg2
        rw [hf, if_pos rfl] at hsn
        have hob : ∀ q, xv.ownBlock = some q → V0.heap.size + 2 ≤ q := fun q e => (ho.lt q e).1
        have hkk : ∀ r, r < V0.heap.size + 2 → r ≠ w.heap.size → (w2.setCell ⟨w.heap.size, 0, none⟩ v').heap[r]? = X.heap[r]? := fun r h1 h2 =>
          (Below.heap_setCell _ _ _ r h2).trans ((hg2.block r (show r < (X.alloc (Obj.cells #[.int .i64 x.no, .int .i64 x.kind, .int .i64 x.a, .int .i64 x.b, .int .i64 x.from_, .int .i64 x.until_, .int .i64 x.known, .int .i64 x.gone] 49)).heap.size by rw [World.size_alloc]; omega) (fun e => by have := hob r e.symm; omega)).trans (Below.heap_alloc X (Obj.cells #[.int .i64 x.no, .int .i64 x.kind, .int .i64 x.a, .int .i64 x.b, .int .i64 x.from_, .int .i64 x.until_, .int .i64 x.known, .int .i64 x.gone] 49) r (by omega)))
        have hzz : X.heap.size ≤ (w2.setCell ⟨w.heap.size, 0, none⟩ v').heap.size := by have := hg2.size; simp [World.setCell] at this ⊢; omega
        have hw0 : w.heap.size < W.heap.size := by omega
        refine ⟨⟨hzz, hkk _ (by omega) (by omega), hkk _ (by omega) (by omega)⟩, fun r hr => hkk r (by rcases hr with h | h | h | h <;> omega) (by rcases hr with h | h | h | h <;> omega), ⟨v', ?_, ?_⟩, ?_, Nat.le_trans hz6 hzz, fun r h1 h2 => (hkk r (by omega) h2).trans (hk6 r h1 h2)⟩
        · have b6' : Boxed (X.alloc (Obj.cells #[.int .i64 x.no, .int .i64 x.kind, .int .i64 x.a, .int .i64 x.b, .int .i64 x.from_, .int .i64 x.until_, .int .i64 x.known, .int .i64 x.gone] 49)).drew w.heap.size 26 xv := b6.alloc _
          exact (b6'.kept hg2 (fun e => by have := hob _ e.symm; omega)).set v'
        · rw [hsn, List.length_append, List.flatMap_append, List.flatMap_cons, List.flatMap_nil, List.append_nil]
          exact ownsRow_setCell_below ho2 (by simp only []; omega) v'
        · exact (((hB6.alloc hB6.size (Obj.cells #[.int .i64 x.no, .int .i64 x.kind, .int .i64 x.a, .int .i64 x.b, .int .i64 x.from_, .int .i64 x.until_, .int .i64 x.known, .int .i64 x.gone] 49)).drew).grown hg2 (by have := hB6.size; simp; omega) (fun r e => by have := hob r e; omega)).setCell (p := ⟨w.heap.size, 0, none⟩) (by simp) _
      have hkp : keepB g x = (!oneB x || decide ((g (x.kind, x.a)).getD zeroE = x)) := rfl
      obtain ⟨d0, d1, d2, d3, d4, d5, d6, d7⟩ := st8e (show Row X bx 49 [.int .i64 x.no, .int .i64 x.kind, .int .i64 x.a, .int .i64 x.b, .int .i64 x.from_, .int .i64 x.until_, .int .i64 x.known, .int .i64 x.gone] from hcx)
      have c9 := m9.cell
      have c6 := b6.cell
      have mM' : MapK pv X.drew w1.heap.size (valM g) := mM
      have hlk := mM'.look law_pair Tryz.underlying175 (show (zeroValue 49).run Tryz.prog X.drew = .ok zeroE.val X.drew by kernel_rfl) (x.kind, x.a) false
      rw [if_neg (by decide), (getD_val _ _).1] at hlk
      obtain ⟨o, hoo⟩ : ∃ o, (g (x.kind, x.a)).getD zeroE = o := ⟨_, rfl⟩
      rw [hoo] at hlk hkp
      obtain ⟨bb, hbb⟩ : ∃ bb, decide (o = x) = bb := ⟨_, rfl⟩
      rw [hbb] at hkp
      have HBB := Lib.hid hbb
      unfold En.val pv at hlk
      have HF := Lib.hid fin
      have HF2 := Lib.hid fin2
      have HO := Lib.hid ho
      have B6 := Lib.hid b6
      have HKP := Lib.hid hkp
      have HSN := Lib.hid hsn
      have H9 := Lib.hid mM
      clear fin fin2 ho hkp hsn hoo hbb hcx mM mM' m9 hB6
      by_cases h1 : x.kind = 1
      · have hone : oneB x = true := by unfold oneB; rw [h1]; rfl
        have HK := Lib.hid (HKP.out.trans (by rw [hone, Bool.not_true, Bool.false_or]))
        have e1 : (x.kind == 1) = true := by rw [h1]; rfl
        have e1' : decide (x.kind = 1) = true := by rw [h1]; rfl
        clear h1 hone HKP
        gi_wp2
        refine wpIn_region_det 12 (fun w' => w' = X.drew) (by kernel_rfl) (by kernel_rfl) (fun ⟨_, _, h⟩ => h) rfl ?_
        iterate 11
          refine wpDet_take (v := ?_) rfl (by kernel_rfl) (fun w' hSw => ?_) ?_
          rotate_left 1
          · subst hSw
            go_simp
            with_reducible rfl
          simp only [Act.put, List.getElem_toArray, List.getElem_cons_succ, List.getElem_cons_zero, List.setIfInBounds_toArray, List.set_cons_zero, List.set_cons_succ]
        refine wpDet_take (v := .bool bb) rfl (by kernel_rfl) (fun w' hSw => ?_) ?_
        · subst hSw
          go_simp
          rw [ifs8, ← HBB.out]
          by_cases h : o = x
          · rw [if_pos h, decide_eq_true h]
          · rw [if_neg h, decide_eq_false h]
        simp only [Act.put, List.getElem_toArray, List.getElem_cons_succ, List.getElem_cons_zero, List.setIfInBounds_toArray, List.set_cons_zero, List.set_cons_succ]
        refine wpDet_done (fun w' hSw => ?_)
        subst hSw
        cases bb with
        | false =>
          go_wp2
          gi_wp2
          have HR := Lib.hid (HF.out HK.out)
          first | exact HR.out | (rw [hzV] at HR; exact HR.out)
        | true =>
          go_wp2
          gi_wp2_with (gi_at_builtin; go_loud (refine wpListIn_append_own _ rfl _ _ 26 rfl (V0.heap.size + 2) 49 i0 zeroE.val 8 64 Tryz.underlying26 hi hz0 hz1 hz2 rfl (by decide) _ _ _ rfl ((HO.out.alloc (Obj.cells #[.int .i64 x.no, .int .i64 x.kind, .int .i64 x.a, .int .i64 x.b, .int .i64 x.from_, .int .i64 x.until_, .int .i64 x.known, .int .i64 x.gone] 49)).drew) ⟨X.heap.size, 0, none⟩ 1 1 x.cells rfl rfl (cells_new X 49 x.cells) (by simp [En.cells, Value.oneCell']) (by unfold maxLen; omega) (by omega) (by simp; omega) ?_; intro v' w2 ho2 hg2 _; obtain ⟨gg, cap, rfl⟩ := ownsRow_succ ho2; have b7 := (show Boxed (X.alloc (Obj.cells #[.int .i64 x.no, .int .i64 x.kind, .int .i64 x.a, .int .i64 x.b, .int .i64 x.from_, .int .i64 x.until_, .int .i64 x.known, .int .i64 x.gone] 49)).drew w.heap.size 26 xv from B6.out.alloc _).kept hg2 (fun e => by have := (HO.out.lt _ e.symm).1; omega); have c7 := b7.cell; have c8 := b7.frozen))
          have HR := Lib.hid (HF2.out _ w2 HK.out ho2 hg2)
          first | exact HR.out | (rw [hzV] at HR; exact HR.out)
      by_cases h2 : x.kind = 2
      · have hone : oneB x = true := by unfold oneB; rw [h2]; rfl
        have HK := Lib.hid (HKP.out.trans (by rw [hone, Bool.not_true, Bool.false_or]))
        have e0 : (x.kind == 1) = false := by rw [h2]; rfl
        have e0' : decide (x.kind = 1) = false := by rw [h2]; rfl
        have e1 : (x.kind == 2) = true := by rw [h2]; rfl
        have e1' : decide (x.kind = 2) = true := by rw [h2]; rfl
        clear h1 h2 hone HKP
        gi_wp2
        refine wpIn_region_det 12 (fun w' => w' = X.drew) (by kernel_rfl) (by kernel_rfl) (fun ⟨_, _, h⟩ => h) rfl ?_
        iterate 11
          refine wpDet_take (v := ?_) rfl (by kernel_rfl) (fun w' hSw => ?_) ?_
          rotate_left 1
          · subst hSw
            go_simp
            with_reducible rfl
          simp only [Act.put, List.getElem_toArray, List.getElem_cons_succ, List.getElem_cons_zero, List.setIfInBounds_toArray, List.set_cons_zero, List.set_cons_succ]
        refine wpDet_take (v := .bool bb) rfl (by kernel_rfl) (fun w' hSw => ?_) ?_
        · subst hSw
          go_simp
          rw [ifs8, ← HBB.out]
          by_cases h : o = x
          · rw [if_pos h, decide_eq_true h]
          · rw [if_neg h, decide_eq_false h]
        simp only [Act.put, List.getElem_toArray, List.getElem_cons_succ, List.getElem_cons_zero, List.setIfInBounds_toArray, List.set_cons_zero, List.set_cons_succ]
        refine wpDet_done (fun w' hSw => ?_)
        subst hSw
        cases bb with
        | false =>
          go_wp2
          gi_wp2
          have HR := Lib.hid (HF.out HK.out)
          first | exact HR.out | (rw [hzV] at HR; exact HR.out)
        | true =>
          go_wp2
          gi_wp2_with (gi_at_builtin; go_loud (refine wpListIn_append_own _ rfl _ _ 26 rfl (V0.heap.size + 2) 49 i0 zeroE.val 8 64 Tryz.underlying26 hi hz0 hz1 hz2 rfl (by decide) _ _ _ rfl ((HO.out.alloc (Obj.cells #[.int .i64 x.no, .int .i64 x.kind, .int .i64 x.a, .int .i64 x.b, .int .i64 x.from_, .int .i64 x.until_, .int .i64 x.known, .int .i64 x.gone] 49)).drew) ⟨X.heap.size, 0, none⟩ 1 1 x.cells rfl rfl (cells_new X 49 x.cells) (by simp [En.cells, Value.oneCell']) (by unfold maxLen; omega) (by omega) (by simp; omega) ?_; intro v' w2 ho2 hg2 _; obtain ⟨gg, cap, rfl⟩ := ownsRow_succ ho2; have b7 := (show Boxed (X.alloc (Obj.cells #[.int .i64 x.no, .int .i64 x.kind, .int .i64 x.a, .int .i64 x.b, .int .i64 x.from_, .int .i64 x.until_, .int .i64 x.known, .int .i64 x.gone] 49)).drew w.heap.size 26 xv from B6.out.alloc _).kept hg2 (fun e => by have := (HO.out.lt _ e.symm).1; omega); have c7 := b7.cell; have c8 := b7.frozen))
          have HR := Lib.hid (HF2.out _ w2 HK.out ho2 hg2)
          first | exact HR.out | (rw [hzV] at HR; exact HR.out)
      have hone : oneB x = false := by unfold oneB; rw [beq_eq_false_iff_ne.2 h1, beq_eq_false_iff_ne.2 h2]; rfl
      have HK := Lib.hid (HKP.out.trans (by rw [hone, Bool.not_false, Bool.true_or]))
      have e0 : (x.kind == 1) = false := beq_eq_false_iff_ne.2 h1
      have e0' : decide (x.kind = 1) = false := decide_eq_false h1
      have e1 : (x.kind == 2) = false := beq_eq_false_iff_ne.2 h2
      have e1' : decide (x.kind = 2) = false := decide_eq_false h2
      clear h1 h2 hone HKP
      gi_wp2
      refine wpIn_region_det 12 (fun w' => w' = X.drew) (by kernel_rfl) (by kernel_rfl) (fun ⟨_, _, h⟩ => h) rfl ?_
      iterate 3
        refine wpDet_take (v := ?_) rfl (by kernel_rfl) (fun w' hSw => ?_) ?_
        rotate_left 1
        · subst hSw
          go_simp
          with_reducible rfl
        simp only [Act.put, List.getElem_toArray, List.getElem_cons_succ, List.getElem_cons_zero, List.setIfInBounds_toArray, List.set_cons_zero, List.set_cons_succ]
      iterate 9
        refine wpDet_skip rfl (by kernel_rfl) ?_
        simp only [Act.put, List.getElem_toArray, List.getElem_cons_succ, List.getElem_cons_zero, List.setIfInBounds_toArray, List.set_cons_zero, List.set_cons_succ]
      refine wpDet_done (fun w' hSw => ?_)
      subst hSw
      go_wp2
      gi_wp2_with (gi_at_builtin; go_loud (refine wpListIn_append_own _ rfl _ _ 26 rfl (V0.heap.size + 2) 49 i0 zeroE.val 8 64 Tryz.underlying26 hi hz0 hz1 hz2 rfl (by decide) _ _ _ rfl ((HO.out.alloc (Obj.cells #[.int .i64 x.no, .int .i64 x.kind, .int .i64 x.a, .int .i64 x.b, .int .i64 x.from_, .int .i64 x.until_, .int .i64 x.known, .int .i64 x.gone] 49)).drew) ⟨X.heap.size, 0, none⟩ 1 1 x.cells rfl rfl (cells_new X 49 x.cells) (by simp [En.cells, Value.oneCell']) (by unfold maxLen; omega) (by omega) (by simp; omega) ?_; intro v' w2 ho2 hg2 _; obtain ⟨gg, cap, rfl⟩ := ownsRow_succ ho2; have b7 := (show Boxed (X.alloc (Obj.cells #[.int .i64 x.no, .int .i64 x.kind, .int .i64 x.a, .int .i64 x.b, .int .i64 x.from_, .int .i64 x.until_, .int .i64 x.known, .int .i64 x.gone] 49)).drew w.heap.size 26 xv from B6.out.alloc _).kept hg2 (fun e => by have := (HO.out.lt _ e.symm).1; omega); have c7 := b7.cell; have c8 := b7.frozen))
      have HR := Lib.hid (HF2.out _ w2 HK.out ho2 hg2)
      first | exact HR.out | (rw [hzV] at HR; exact HR.out)
    case done2 =>
      rintro X ⟨⟨xv, b6, ho⟩, hB6, hz6, hk6⟩ hsz hD
      rw [List.length_map, List.take_length] at ho
      have hst : standL l day time = LC.filter (keepB g) := by unfold standL; rw [hLC, hg]
      rw [← hst] at ho
      have hstl : (standL l day time).length ≤ 1024 := by rw [hst]; exact Nat.le_trans (List.length_filter_le _ _) hLn
      have hdX : X.heap[w1.heap.size + 5]? = some (.deferred (some [])) := (hk6 _ (by omega) (by omega)).trans jX
      rw [hzV] at hD
      have hsl : SlE X X.heap.size xv (standL l day time) := own_slG ho (fun _ => rfl) rfl (by omega)
      have HSL := Lib.hid hsl
      obtain ⟨_, A', c', rfl, _⟩ := hsl
      obtain ⟨nn, hnn⟩ : ∃ nn, (standL l day time).length = nn := ⟨_, rfl⟩
      rw [hnn] at b6 ho
      have HO := Lib.hid ho
      have HX := Lib.hid hdX
      have HB := Lib.hid hB6
      clear ho hdX hB6 HSL
      have c6 := b6.cell
      have l6 := b6.frozen
      gi_wp2
      have hD1 : (X.setCell ⟨w.heap.size, 0, none⟩ (.slice A' nn c')).heap[V0.heap.size]? = some (.deferred (some [])) := by rw [hzV]; exact (Below.heap_setCell _ _ _ _ (by simp only []; omega)).trans hD
      have hD2 : ((X.setCell ⟨w.heap.size, 0, none⟩ (.slice A' nn c')).putObj V0.heap.size (.deferred none)).heap[w1.heap.size + 5]? = some (.deferred (some [])) :=
        (World.putObj_heap_other (by omega)).trans ((Below.heap_setCell _ _ _ _ (by simp only []; omega)).trans HX.out)
      have o1 := ownsRow_setCell_below HO.out (a := ⟨w.heap.size, 0, none⟩) (by simp only []; omega) (.slice A' nn c')
      have o2 := ownsRow_putObj o1 (.deferred none) hD1 rfl
      have o3 := ownsRow_putObj o2 (.deferred none) hD2 rfl
      have b1 := b6.set (.slice A' nn c')
      have b2 := (b1.kept (grownBy_putObj' _ V0.heap.size (.deferred none)) (by simp; omega)).kept (grownBy_putObj' _ (w1.heap.size + 5) (.deferred none)) (by simp; omega)
      have hB1 := HB.out.setCell (p := ⟨w.heap.size, 0, none⟩) (by simp) (.slice A' nn c')
      have hB2 := hB1.grown (grownBy_putObj' _ V0.heap.size (.deferred none)) hB1.size (fun r e => by have := Option.some.inj e; omega)
      have hB3 := hB2.grown (grownBy_putObj' _ (w1.heap.size + 5) (.deferred none)) hB2.size (fun r e => by have := Option.some.inj e; omega)
      have d6 := b2.cell
      refine ⟨by simp, .inl ⟨_, _, rfl, run_takeDeferred hD1, by simp, .inl ⟨_, _, rfl, run_takeDeferred hD2, ?_⟩⟩⟩
      refine ⟨.tuple #[.slice A' nn c', .int .i64 0], ?_, ⟨_, rfl, own_slG o3 (fun _ => rfl) hnn.symm (by omega)⟩, hB3⟩
      simp [results, Tryz.f76, go_sem, d6]
    case stop2 => exact fun _ _ _ _ h => h.elim
  case stop => exact fun _ _ _ _ h => h.elim
set_option maxHeartbeats 1000000 in
theorem stand_bad (l : List En) (v : Value) (day time : Int) (w : World) (h : SlE w w.heap.size v l) (hc : chkE l ≠ 0) :
    Calls Tryz.prog 76 #[v, .int .i64 day, .int .i64 time] w fun e w' => e = .returned (.tuple #[.slice none 0 0, .int .i64 (chkE l)]) ∧ Below w.heap.size w w' := by
  have hck := fun (W : World) (hw : Below w.heap.size w W) => rcheckl_any l v W ((h.below hw).mono hw.size)
  obtain ⟨cc, hcc⟩ : ∃ cc, chkE l = cc := ⟨_, rfl⟩
  rw [hcc] at hck hc ⊢
  have HC := Lib.hid hck
  obtain ⟨hl, A, c, rfl, _⟩ := h
  clear hck hcc
  have f0 : decide (cc = 0) = false := decide_eq_false hc
  refine (callsIn_wide (n := 3)).1 ?_
  refine callsIn_of_wp_marks Tryz.func76 rfl trivial ?_ rfl
  simp only [Tryz.ntmps76, List.size_toArray, List.length_cons, List.length_nil, Nat.reduceAdd, Nat.reduceSub, Array.replicate_succ, Array.replicate_zero, List.push_toArray, List.append_toArray, List.nil_append, List.cons_append]
  gi_wp2
  refine ⟨trivial, ?_⟩
  gi_at_call 125
  refine (callsIn_wide.2 (HC.out _ ((Below.refl _ _).alloc (Nat.le_refl _) _))).mono ?_
  rintro e w1 ⟨rfl, hb1⟩
  have b1 : Boxed w1 w.heap.size 26 (.slice none 0 0) := (hb1.block w.heap.size (by simp)).trans (Boxed.new w _ _)
  have c1 := b1.cell
  have c2 := b1.frozen
  have hzz := hb1.size
  gi_wp2
  have d6 := (b1.set (.slice none 0 0)).cell
  have hB := ((Below.refl w.heap.size w).alloc (Nat.le_refl _) (.cells #[.slice none 0 0] 26)).trans (hb1.mono (by simp))
  refine ⟨.tuple #[.slice none 0 0, .int .i64 cc], ?_, ⟨rfl, hB.setCell (p := ⟨w.heap.size, 0, none⟩) (by simp) _⟩⟩
  simp [results, Tryz.f76, go_sem, d6]
set_option maxHeartbeats 1000000 in
theorem stand_arg (l : List En) (v : Value) (day time : Int) (w : World) (h : SlE w w.heap.size v l) (hc : chkE l = 0) (ht : clockB day time = false) :
    Calls Tryz.prog 76 #[v, .int .i64 day, .int .i64 time] w fun e w' => e = .returned (.tuple #[.slice none 0 0, .int .i64 1]) ∧ Below w.heap.size w w' := by
  have hck := fun (W : World) (hw : Below w.heap.size w W) => rcheckl_any l v W ((h.below hw).mono hw.size)
  rw [hc] at hck
  have HC := Lib.hid hck
  obtain ⟨hl, A, c, rfl, _⟩ := h
  clear hck hc
  obtain ⟨m, hm⟩ : ∃ m, (if time < day then time else day) = m := ⟨_, rfl⟩
  obtain ⟨mx, hmx⟩ : ∃ m, (if day < time then time else day) = m := ⟨_, rfl⟩
  have hor : m < 0 ∨ ¬ m < 0 ∧ 2097152 ≤ mx := by
    by_cases h0 : m < 0
    · exact .inl h0
    · refine .inr ⟨h0, ?_⟩
      unfold clockB at ht
      have : ¬ (0 ≤ day ∧ 0 ≤ time ∧ day < 2097152 ∧ time < 2097152) := by
        intro ⟨k1, k2, k3, k4⟩
        rw [decide_eq_true k1, decide_eq_true k2, decide_eq_true k3, decide_eq_true k4] at ht
        cases ht
      split at hm <;> split at hmx <;> omega
  clear ht
  refine (callsIn_wide (n := 3)).1 ?_
  refine callsIn_of_wp_marks Tryz.func76 rfl trivial ?_ rfl
  simp only [Tryz.ntmps76, List.size_toArray, List.length_cons, List.length_nil, Nat.reduceAdd, Nat.reduceSub, Array.replicate_succ, Array.replicate_zero, List.push_toArray, List.append_toArray, List.nil_append, List.cons_append]
  gi_wp2
  refine ⟨trivial, ?_⟩
  gi_at_call 125
  refine (callsIn_wide.2 (HC.out _ ((Below.refl _ _).alloc (Nat.le_refl _) _))).mono ?_
  rintro e w1 ⟨rfl, hb1⟩
  have b1 : Boxed w1 w.heap.size 26 (.slice none 0 0) := (hb1.block w.heap.size (by simp)).trans (Boxed.new w _ _)
  have c1 := b1.cell
  have c2 := b1.frozen
  have hzz := hb1.size
  rcases hor with h0 | ⟨h0, h3⟩
  · have f1 : decide (m < 0) = true := decide_eq_true h0
    clear h0
    gi_wp2
    have d6 := (b1.set (.slice none 0 0)).cell
    have hB := ((Below.refl w.heap.size w).alloc (Nat.le_refl _) (.cells #[.slice none 0 0] 26)).trans (hb1.mono (by simp))
    refine ⟨.tuple #[.slice none 0 0, .int .i64 1], ?_, ⟨rfl, hB.setCell (p := ⟨w.heap.size, 0, none⟩) (by simp) _⟩⟩
    simp [results, Tryz.f76, go_sem, d6]
  · have f1 : decide (m < 0) = false := decide_eq_false (by omega)
    have f2 : decide (2097152 ≤ mx) = true := decide_eq_true h3
    clear h0 h3
    gi_wp2
    have d6 := (b1.set (.slice none 0 0)).cell
    have hB := ((Below.refl w.heap.size w).alloc (Nat.le_refl _) (.cells #[.slice none 0 0] 26)).trans (hb1.mono (by simp))
    refine ⟨.tuple #[.slice none 0 0, .int .i64 1], ?_, ⟨rfl, hB.setCell (p := ⟨w.heap.size, 0, none⟩) (by simp) _⟩⟩
    simp [results, Tryz.f76, go_sem, d6]
def standX (l : List En) (day time : Int) : List En := if stE l day time = 0 then standL l day time else []
theorem stand_any (l : List En) (v : Value) (day time : Int) (w : World) (h : SlE w w.heap.size v l) :
    Calls Tryz.prog 76 #[v, .int .i64 day, .int .i64 time] w fun e w' => (∃ x, e = .returned (.tuple #[x, .int .i64 (stE l day time)]) ∧ SlE w' w'.heap.size x (standX l day time)) ∧ Below w.heap.size w w' := by
  by_cases hc : chkE l = 0
  · cases ht : clockB day time with
    | true =>
      have e : stE l day time = 0 := by unfold stE; rw [if_pos hc, if_pos ht]
      refine (stand_good l v day time w h hc ht).mono ?_
      rintro e w' ⟨⟨x, rfl, hx⟩, hb⟩
      refine ⟨⟨x, by rw [e], ?_⟩, hb⟩
      unfold standX
      rw [if_pos e]
      exact hx
    | false =>
      have e : stE l day time = 1 := by unfold stE; rw [if_pos hc, ht]; rfl
      refine (stand_arg l v day time w h hc ht).mono ?_
      rintro e w' ⟨rfl, hb⟩
      refine ⟨⟨_, by rw [e], ?_⟩, hb⟩
      unfold standX
      rw [if_neg (by rw [e]; decide)]
      exact SlG.nil_ _ _
  · have e : stE l day time = chkE l := by unfold stE; rw [if_neg hc]
    refine (stand_bad l v day time w h hc).mono ?_
    rintro e w' ⟨rfl, hb⟩
    refine ⟨⟨_, by rw [e], ?_⟩, hb⟩
    unfold standX
    rw [if_neg (by rw [e]; exact hc)]
    exact SlG.nil_ _ _
end Go.Proofs.YthckledagggoiaaGreatDoor
