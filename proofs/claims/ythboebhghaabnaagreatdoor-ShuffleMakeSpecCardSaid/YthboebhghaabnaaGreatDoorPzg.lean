import Derived.Laws.AppendOwn
import Derived.Deep.AppendLies
import Derived.Deep.QuietTactic
import Derived.BigQuiet
import Derived.Test.YthboebhghaabnaaGreatDoorPzf
set_option linter.unusedSimpArgs false
set_option linter.unusedVariables false
namespace Go.Proofs.YthboebhghaabnaaGreatDoor
open Go.RowKit Go.Shelf Fk Sha
attribute [local go_sem] Oper.semAt_some
attribute [local go_sem] wide_fn
/-! Two openings put together. -/
set_option maxRecDepth 100000 in
theorem ways_any (A A1 A2 : Option Addr) (n n1 n2 c c1 c2 : Nat) (w : World) : Calls Tryz.prog 40 #[.slice A n c, .slice A1 n1 c1, .slice A2 n2 c2] w fun e w' => e = .returned (.func (Fn.func 66) #[] #[.pointer (some ⟨w.heap.size, 0, none⟩), .pointer (some ⟨w.heap.size + 1, 0, none⟩), .pointer (some ⟨w.heap.size + 1 + 1, 0, none⟩)]) ∧
    w' = ((w.alloc (.cells #[.slice A n c] 23)).alloc (.cells #[.slice A1 n1 c1] 38)).alloc (.cells #[.slice A2 n2 c2] 38) := by
  go_enter Tryz.func40, Tryz.ntmps40
  go_wp2
  go_ret
  exact ⟨rfl, rfl⟩
abbrev ownI (base : Nat) (w : World) (v : Value) (l : List Int) : Prop := w.ownsRow base 3 1 v l.length (l.map (Value.int .i64))
theorem infoI1 : (Tryz.prog.info? 3).map (fun i => (i.zero, i.size, i.bytes)) = some (some (.int .i64 0), 1, 8) := by kernel_rfl
/-- two lists that grow by turns -/
structure App (base : Nat) (W0 : World) (L R : List Int) (v8 v9 : Value) (W : World) : Prop where
  b : Below base W0 W
  z : base ≤ W.heap.size
  o8 : ownI base W v8 L
  o9 : ownI base W v9 R
  d : ∀ k, v8.ownBlock = some k → v9.ownBlock ≠ some k
section
variable {base : Nat} {W0 W W' : World} {L R : List Int} {v8 v9 : Value}
theorem App.alloc (h : App base W0 L R v8 v9 W) (ob : Obj) : App base W0 L R v8 v9 (W.alloc ob) :=
  ⟨h.b.alloc h.z ob, by have := h.z; rw [World.size_alloc]; omega, World.ownsRow.alloc h.o8 ob, World.ownsRow.alloc h.o9 ob, h.d⟩
theorem App.cell (h : App base W0 L R v8 v9 W) {b : Nat} {x : Value} (hb : b < base) (hc : W0.cell? ⟨b, 0, none⟩ = some x) : W.cell? ⟨b, 0, none⟩ = some x := (h.b.cell (p := ⟨b, 0, none⟩) hb).trans hc
theorem App.left {g cap : Nat} {x : Int} (h : App base W0 L R v8 v9 W) (hown : W'.ownsRow base 3 1 (.slice (some ⟨g, 0, none⟩) (L.length + 1) cap) (L.length + 1) (L.map (Value.int .i64) ++ [.int .i64 x])) (hgr : W.grownBy W' v8.ownBlock) (hat : v8.ownBlock = some g ∨ g = W.heap.size) :
    App base W0 (L ++ [x]) R (.slice (some ⟨g, 0, none⟩) (L.length + 1) cap) v9 W' := by
  refine ⟨h.b.grown hgr h.z (fun r e => (h.o8.lt r e).1), Nat.le_trans h.z hgr.size, ?_, h.o9.kept hgr ?_, ?_⟩
  · unfold ownI
    rw [List.length_append, List.map_append]
    exact hown
  · rcases Classical.em (v9.ownBlock = none) with e | e
    · exact .inl e
    · right
      intro e2
      cases hv : v8.ownBlock with
      | none => rw [hv] at e2; exact e e2
      | some k => rw [hv] at e2; exact h.d k hv e2
  · intro k hk e
    have hk' : g = k := by injection hk
    subst hk'
    rcases hat with h1 | h1
    · exact h.d _ h1 e
    · have := (h.o9.lt _ e).2; omega
theorem App.right {g cap : Nat} {x : Int} (h : App base W0 L R v8 v9 W) (hown : W'.ownsRow base 3 1 (.slice (some ⟨g, 0, none⟩) (R.length + 1) cap) (R.length + 1) (R.map (Value.int .i64) ++ [.int .i64 x])) (hgr : W.grownBy W' v9.ownBlock) (hat : v9.ownBlock = some g ∨ g = W.heap.size) :
    App base W0 L (R ++ [x]) v8 (.slice (some ⟨g, 0, none⟩) (R.length + 1) cap) W' := by
  have hs : App base W0 R L v9 v8 W := ⟨h.b, h.z, h.o9, h.o8, fun k h1 h2 => h.d k h2 h1⟩
  have := hs.left hown hgr hat
  exact ⟨this.b, this.z, this.o9, this.o8, fun k h1 h2 => this.d k h2 h1⟩
theorem App.drew (h : App base W0 L R v8 v9 W) : App base W0 L R v8 v9 W.drew := ⟨h.b.drew, h.z, h.o8, h.o9, h.d⟩
/-- a row that is no list's own stays -/
theorem App.row (h : App base W0 L R v8 v9 W) {g : Nat} {t : TypeId} {vs : List Value} (hr : Row W g t vs) {v : Value} (hgr : W.grownBy W' v.ownBlock) (hg : v.ownBlock ≠ some g) : Row W' g t vs := hr.keep (hgr.block g hr.lt (fun e => hg e.symm))
end
theorem grown_cell (W : World) (b i : Nat) (x : Value) : W.grownBy (W.setCell ⟨b, i, none⟩ x) (some b) :=
  ⟨rfl, rfl, rfl, by simp [World.setCell], fun k _ hk => Below.heap_setCell W ⟨b, i, none⟩ x k (fun e => hk (by rw [e]))⟩
theorem own_cell {W : World} {base n m : Nat} {e : TypeId} {v : Value} {vs : List Value} (h : W.ownsRow base e m v n vs) {b : Nat} (hb : b < base) (i : Nat) (x : Value) : (W.setCell ⟨b, i, none⟩ x).ownsRow base e m v n vs :=
  h.kept (grown_cell W b i x) (by
    cases hv : v.ownBlock with
    | none => exact .inl rfl
    | some k => exact .inr (fun e => by injection e with e; have := (h.lt k hv).1; omega))
theorem rowZ {w : World} {n : Nat} (h : w.heap.size = n) (t : TypeId) (vs : List Value) : Row (w.alloc (.cells vs.toArray t)) n t vs := h ▸ Row.new w t vs
theorem news_row {W : World} {g : Nat} {t : TypeId} {x : Value} (h : Row W g t [x]) : ∀ j u, [x][j]? = some u → W.cell? ((⟨g, 0, none⟩ : Addr).add j) = some u := fun j u hj => by
  rw [addr_add0, h.cell, Nat.zero_add]; exact hj
/-- what stands while the letters are gone through: k of them -/
structure WyI (w : World) (base g8 g9 : Nat) (T : World → Prop) (L R : List Int) (W : World) : Prop where
  b : Below w.heap.size w W
  t : T W
  v : ∃ v8 v9, Row W g8 23 [v8] ∧ Row W g9 23 [v9] ∧ ownI base W v8 L ∧ ownI base W v9 R ∧ ∀ k, v8.ownBlock = some k → v9.ownBlock ≠ some k
abbrev whAct (A A1 A2 : Option Addr) (c c1 c2 nb nl no g : Nat) (x y : Int) : Act := { tmps := #[.slice A nb c, .slice A1 nl c1, .slice A2 no c2, undef, undef, undef, .slice none 0 0, .bool false, .pointer (some ⟨g, 0, none⟩), .pointer (some ⟨g + 1, 0, none⟩), .int .i64 x, .int .i64 y, undef, undef,
  .slice A nb c, .int .i64 (nb : Int), .bool false, .bool false, .slice A1 nl c1, .int .i64 (nl : Int), .slice A nb c, .int .i64 (nb : Int), .bool false, .bool false, .bool false, .slice A2 no c2, .int .i64 (no : Int), .slice A nb c, .int .i64 (nb : Int), .bool false, .bool false, .bool false, .slice A nb c, .bool true, .bool false, .bool false, .slice A nb c, .slice A1 nl c1, .slice A2 no c2,
  .func (Fn.func 66) #[] #[.pointer (some ⟨g + 1 + 1, 0, none⟩), .pointer (some ⟨g + 1 + 1 + 1, 0, none⟩), .pointer (some ⟨g + 1 + 1 + 1 + 1, 0, none⟩)], .int .i64 x, .int .i64 y, undef, undef, undef, undef, undef, undef, undef, undef, undef, undef, undef, undef, undef, undef, undef, undef, undef, undef, undef, undef, undef, undef, undef, undef, undef, undef, undef, undef, undef, undef, undef, undef, undef, undef, undef], defers := [] }
set_option maxRecDepth 100000 in
set_option maxHeartbeats 4000000 in
theorem whole_main (bits : List Int) (l o : List Og) (A A1 A2 : Option Addr) (c c1 c2 : Nat) (w : World) (hb : SlI w w.heap.size (.slice A bits.length c) bits) (hl : SlG 36 Og.cells w w.heap.size (.slice A1 l.length c1) l) (ho : SlG 36 Og.cells w w.heap.size (.slice A2 o.length c2) o)
    (h64 : bits.length ≤ 64) (hll : l.length = bits.length) (hol : o.length = bits.length) (hbit : bits.all bitB = true) :
    Calls Tryz.prog 18 #[.slice A bits.length c, .slice A1 l.length c1, .slice A2 o.length c2] w fun e w' => ∃ v, e = .returned (.tuple #[v, .bool (wholeB bits l o)]) ∧ Below w.heap.size w w' ∧ SlI w' w'.heap.size v (wholeC bits l o) := by
  have q1 := fun (w' : World) (hbb : Below w.heap.size w w') => binary_any bits _ w' ((hb.below hbb).mono hbb.size)
  rw [hbit] at q1
  have Q1 := Lib.hid q1
  have HB := Lib.hid hb
  have HL := Lib.hid hl
  have HO := Lib.hid ho
  have HBIT := Lib.hid hbit
  have H1 := Lib.hid hll
  have H2 := Lib.hid hol
  have s1 : ¬ ((64 : Int) < bits.length) := by omega
  have s2 : ((l.length : Int) != bits.length) = false := by rw [hll]; simp
  have s3 : ((o.length : Int) != bits.length) = false := by rw [hol]; simp
  have hB := Below.refl w.heap.size w
  clear q1 hb hl ho hbit hll hol
  refine (callsIn_wide (n := 3)).1 ?_
  refine callsIn_of_wp_marks Tryz.func18 rfl trivial ?_ rfl
  simp only [Tryz.ntmps18, List.size_toArray, List.length_cons, List.length_nil, Nat.reduceAdd, Nat.reduceSub, Array.replicate_succ, Array.replicate_zero, List.push_toArray, List.append_toArray, List.nil_append, List.cons_append]
  gi_wp2_with (first
    | (gi_at_call 35; (with_reducible refine (callsIn_wide.2 (Q1.out _ hB)).mono ?_); rintro e w1 ⟨rfl, hb⟩; replace hB := hB.trans (hb.mono hB.size); clear hb)
    | (gi_at_call 40; refine (callsIn_wide.2 (ways_any _ _ _ _ _ _ _ _ _ _)).mono ?_; rintro e w4 ⟨rfl, rfl⟩))
  have hz0 : ((((((w1.alloc (.cells #[.slice none 0 0] 23)).alloc (.cells #[.slice none 0 0] 23)).alloc (.cells #[.slice A bits.length c] 23)).alloc (.cells #[.slice A1 l.length c1] 38)).alloc (.cells #[.slice A2 o.length c2] 38))).heap.size = w1.heap.size + 5 := by simp
  have r8 := ((((Row.new w1 23 [.slice none 0 0]).alloc (.cells #[.slice none 0 0] 23)).alloc (.cells #[.slice A bits.length c] 23)).alloc (.cells #[.slice A1 l.length c1] 38)).alloc (.cells #[.slice A2 o.length c2] 38)
  have r9 := (((rowZ (w := w1.alloc (.cells #[.slice none 0 0] 23)) (n := w1.heap.size + 1) (by simp) 23 [.slice none 0 0]).alloc (.cells #[.slice A bits.length c] 23)).alloc (.cells #[.slice A1 l.length c1] 38)).alloc (.cells #[.slice A2 o.length c2] 38)
  have x0 := ((rowZ (w := (w1.alloc (.cells #[.slice none 0 0] 23)).alloc (.cells #[.slice none 0 0] 23)) (n := w1.heap.size + 1 + 1) (by simp) 23 [.slice A bits.length c]).alloc (.cells #[.slice A1 l.length c1] 38)).alloc (.cells #[.slice A2 o.length c2] 38)
  have x1 := (rowZ (w := ((w1.alloc (.cells #[.slice none 0 0] 23)).alloc (.cells #[.slice none 0 0] 23)).alloc (.cells #[.slice A bits.length c] 23)) (n := w1.heap.size + 1 + 1 + 1) (by simp) 38 [.slice A1 l.length c1]).alloc (.cells #[.slice A2 o.length c2] 38)
  have x2 := rowZ (w := (((w1.alloc (.cells #[.slice none 0 0] 23)).alloc (.cells #[.slice none 0 0] 23)).alloc (.cells #[.slice A bits.length c] 23)).alloc (.cells #[.slice A1 l.length c1] 38)) (n := w1.heap.size + 1 + 1 + 1 + 1) (by simp) 38 [.slice A2 o.length c2]
  have hB0 : Below w.heap.size w ((((((w1.alloc (.cells #[.slice none 0 0] 23)).alloc (.cells #[.slice none 0 0] 23)).alloc (.cells #[.slice A bits.length c] 23)).alloc (.cells #[.slice A1 l.length c1] 38)).alloc (.cells #[.slice A2 o.length c2] 38))) := by
    have := hB.size
    exact ((((hB.alloc this _).alloc (by simp; omega) _).alloc (by simp; omega) _).alloc (by simp; omega) _).alloc (by simp; omega) _
  have hgw := hB.size
  obtain ⟨W0, hW0⟩ : ∃ W0, (((((w1.alloc (.cells #[.slice none 0 0] 23)).alloc (.cells #[.slice none 0 0] 23)).alloc (.cells #[.slice A bits.length c] 23)).alloc (.cells #[.slice A1 l.length c1] 38)).alloc (.cells #[.slice A2 o.length c2] 38)) = W0 := ⟨_, rfl⟩
  rw [show ([Value.slice none 0 0].toArray) = #[.slice none 0 0] from rfl] at *
  replace r8 : Row W0 w1.heap.size 23 [.slice none 0 0] := hW0 ▸ r8
  replace r9 : Row W0 (w1.heap.size + 1) 23 [.slice none 0 0] := hW0 ▸ r9
  replace x0 : Row W0 (w1.heap.size + 1 + 1) 23 [.slice A bits.length c] := hW0 ▸ x0
  replace x1 : Row W0 (w1.heap.size + 1 + 1 + 1) 38 [.slice A1 l.length c1] := hW0 ▸ x1
  replace x2 : Row W0 (w1.heap.size + 1 + 1 + 1 + 1) 38 [.slice A2 o.length c2] := hW0 ▸ x2
  rw [hW0] at hz0 hB0 ⊢
  clear hW0
  generalize w1.heap.size = g at *
  have hT0 : WyT bits l o A A1 A2 c c1 c2 (g + 1 + 1) (g + 1 + 1 + 1) (g + 1 + 1 + 1 + 1) w.heap.size W0 := ⟨x0, x1, x2, HB.out.below hB0, HL.out.below hB0, HO.out.below hB0⟩
  clear x0 x1 x2 s1 s2 s3
  refine wpIn_rangeL (w := W0) rfl (by omega) (gf := 66) (lb := #[.pointer (some ⟨g + 1 + 1, 0, none⟩), .pointer (some ⟨g + 1 + 1 + 1, 0, none⟩), .pointer (some ⟨g + 1 + 1 + 1 + 1, 0, none⟩)]) rfl trivial (enters_of Tryz.func66 (by kernel_rfl) rfl)
    (ways_seq bits l o A A1 A2 c c1 c2 (g + 1 + 1) (g + 1 + 1 + 1) (g + 1 + 1 + 1 + 1) w.heap.size (W0.heap.size + 2) (by omega) (by omega) (by omega) (by omega) HBIT.out H1.out H2.out 2 (by omega))
    (fun W hW => hT0.on (fun r hr => hW.block r (by rcases hr with h | h | h | h <;> omega))) (fun h => ?hY) (fun h => h) (fun h => h)
    (fun v hv => by obtain ⟨p, _, rfl⟩ := List.mem_map.1 hv; rfl)
    (fun k W => WyI w (g + 7) g (g + 1) (WyT bits l o A A1 A2 c c1 c2 (g + 1 + 1) (g + 1 + 1 + 1) (g + 1 + 1 + 1 + 1) w.heap.size) (leftTo bits l o k) (rightTo bits l o k) W)
    (fun c _ W => False)
    (fun k W W' row h1 hg hr => ?abI)
    (fun c k W W' row h1 hg hr => h1)
    ⟨hB0, hT0, .slice none 0 0, .slice none 0 0, r8, r9, World.ownsRow_nil _ _ _ _, World.ownsRow_nil _ _ _ _, fun k e => by cases e⟩
    (fun j a' W => a' = whAct A A1 A2 c c1 c2 bits.length l.length o.length g (leftAt bits l o j) (rightAt bits l o j))
    (fun j a' _ W W' row h1 hg hr => h1) ?assign ?body ?done ?stop
  case hY => rcases h with h | h | h | h <;> omega
  case abI =>
    obtain ⟨b, t, v8, v9, k8, k9, o8, o9, d⟩ := h1
    have hrow : ∀ r, row = some r → r = W0.heap.size + 1 := fun r e => (hr r e).resolve_left (fun h => h)
    have hne : ∀ r, r < g + 5 → some r ≠ row := fun r hr e => by have := hrow r e.symm; omega
    have hbig : ∀ v : Value, (∀ k, v.ownBlock = some k → g + 7 ≤ k ∧ k < W.heap.size) → v.ownBlock = none ∨ v.ownBlock ≠ row := fun v hv => by
      cases hvv : v.ownBlock with
      | none => exact .inl rfl
      | some k => exact .inr (fun e => by have := hrow k e.symm; have := (hv k hvv).1; omega)
    refine ⟨b.grown hg b.size (fun r e => by have := hrow r e; omega), t.on (fun r hr => hg.block r ?_ ?_), v8, v9, k8.keep (hg.block _ k8.lt (hne _ (by omega))), k9.keep (hg.block _ k9.lt (hne _ (by omega))), o8.kept hg (hbig _ o8.lt), o9.kept hg (hbig _ o9.lt), d⟩
    · have l0 := Row.lt t.x0
      have l1 := Row.lt t.x1
      have l2 := Row.lt t.x2
      have := b.size
      rcases hr with h | h | h | h <;> omega
    · exact hne _ (by rcases hr with h | h | h | h <;> omega)
  case assign =>
    intro lb j v W K hI hvv hsz hK
    have hj : j < bits.length := by have := (List.getElem?_eq_some_iff.1 hvv).1; rw [wyVals_length] at this; exact this
    rw [wyVals_get hj] at hvv
    injection hvv with hvv
    subst hvv
    gi_wp2
    exact hK _ _ (Kept.refl _ _) (SameOn.refl _ _) hI rfl
  case body =>
    rintro lb j v a' W hI rfl hvv hsz
    have hj : j < bits.length := by have := (List.getElem?_eq_some_iff.1 hvv).1; rw [wyVals_length] at this; exact this
    clear hvv
    obtain ⟨hIb, hIt, v8, v9, k8, k9, o8, o9, dd⟩ := hI
    have lsz : (leftTo bits l o j).length ≤ 64 := by rw [leftTo_length]; omega
    have rsz : (rightTo bits l o j).length ≤ 64 := by rw [rightTo_length]; omega
    have hls : leftTo bits l o (j + 1) = leftTo bits l o j ++ [leftAt bits l o j] := map_range_snoc _ _
    have hrs : rightTo bits l o (j + 1) = rightTo bits l o j ++ [rightAt bits l o j] := map_range_snoc _ _
    have hA : App (g + 7) W.drew (leftTo bits l o j) (rightTo bits l o j) v8 v9 W.drew := ⟨Below.refl _ _, by show _ ≤ W.heap.size; omega, o8, o9, dd⟩
    have fin : ∀ v8' v9' w3, App (g + 7) W.drew (leftTo bits l o j ++ [leftAt bits l o j]) (rightTo bits l o j ++ [rightAt bits l o j]) v8' v9' w3 →
        Kept W0.heap.size W ((w3.setCell ⟨g, 0, none⟩ v8').setCell ⟨g + 1, 0, none⟩ v9') ∧ SameOn (wyY w.heap.size (g + 1 + 1) (g + 1 + 1 + 1) (g + 1 + 1 + 1 + 1)) W ((w3.setCell ⟨g, 0, none⟩ v8').setCell ⟨g + 1, 0, none⟩ v9') ∧
        WyI w (g + 7) g (g + 1) (WyT bits l o A A1 A2 c c1 c2 (g + 1 + 1) (g + 1 + 1 + 1) (g + 1 + 1 + 1 + 1) w.heap.size) (leftTo bits l o (j + 1)) (rightTo bits l o (j + 1)) ((w3.setCell ⟨g, 0, none⟩ v8').setCell ⟨g + 1, 0, none⟩ v9') := by
      intro v8' v9' w3 h
      have hblk : ∀ r, r < g + 7 → r ≠ g → r ≠ g + 1 → ((w3.setCell ⟨g, 0, none⟩ v8').setCell ⟨g + 1, 0, none⟩ v9').heap[r]? = W.heap[r]? := fun r h1 h2 h3 =>
        (Below.heap_setCell _ _ _ r h3).trans ((Below.heap_setCell _ _ _ r h2).trans (h.b.block r h1))
      have hsz3 : W.heap.size ≤ ((w3.setCell ⟨g, 0, none⟩ v8').setCell ⟨g + 1, 0, none⟩ v9').heap.size := by
        have : W.heap.size ≤ w3.heap.size := h.b.size
        simpa [World.setCell] using this
      have hso : SameOn (wyY w.heap.size (g + 1 + 1) (g + 1 + 1 + 1) (g + 1 + 1 + 1 + 1)) W ((w3.setCell ⟨g, 0, none⟩ v8').setCell ⟨g + 1, 0, none⟩ v9') := fun r hr => by
        refine hblk r ?_ ?_ ?_ <;> (rcases hr with h | h | h | h <;> omega)
      refine ⟨⟨hsz3, hblk _ (by omega) (by omega) (by omega), hblk _ (by omega) (by omega) (by omega)⟩, hso, ?_, hIt.on hso, v8', v9', ?_, ?_, ?_, ?_, h.d⟩
      · have h1 : Below w.heap.size w w3 := hIb.drew.trans (h.b.mono (by omega))
        exact (h1.setCell (p := ⟨g, 0, none⟩) hgw _).setCell (p := ⟨g + 1, 0, none⟩) (by show _ ≤ g + 1; omega) _
      · have r := (Row.below (w := W.drew) k8 h.b (by omega))
        exact Row.other (r.store 0 v8') (by show g ≠ g + 1; omega) _
      · have r := (Row.below (w := W.drew) k9 h.b (by omega))
        exact Row.store (Row.other r (by show g + 1 ≠ g; omega) _) 0 v9'
      · rw [hls]; exact own_cell (own_cell h.o8 (by omega) _ _) (by omega) _ _
      · rw [hrs]; exact own_cell (own_cell h.o9 (by omega) _ _) (by omega) _ _
    have hrow : ∀ w3 L' R' v8' v9', App (g + 7) W.drew L' R' v8' v9' w3 → Row w3 g 23 [v8] ∧ Row w3 (g + 1) 23 [v9] := fun w3 L' R' v8' v9' h => ⟨Row.below (w := W.drew) k8 h.b (by omega), Row.below (w := W.drew) k9 h.b (by omega)⟩
    have m8 : W.drew.cell? ⟨g, 0, none⟩ = some v8 := k8.cell 0
    have m9 : W.drew.cell? ⟨g + 1, 0, none⟩ = some v9 := k9.cell 0
    obtain ⟨i0, hi, hz0', hz1, hz2⟩ := info_parts infoI1
    obtain ⟨x, hx⟩ : ∃ x, leftAt bits l o j = x := ⟨_, rfl⟩
    obtain ⟨y, hy⟩ : ∃ y, rightAt bits l o j = y := ⟨_, rfl⟩
    rw [hx, hy] at fin ⊢
    obtain ⟨L, hL⟩ : ∃ L, leftTo bits l o j = L := ⟨_, rfl⟩
    obtain ⟨R, hR⟩ : ∃ R, rightTo bits l o j = R := ⟨_, rfl⟩
    rw [hL] at fin hA lsz
    rw [hR] at fin hA rsz
    have FIN := Lib.hid fin
    have HROW := Lib.hid hrow
    clear fin hrow hx hy hL hR k8 k9 o8 o9 dd hIb hIt hls hrs hT0 r8 r9
    refine wpIn_block ?_
    refine wpIn_region_tree 8 (.take 0 (.take 1 (.take 4 (.take 5 (.two 2 (.two 3 (.one 6 (.one 7 .done)) 6 (.one 3 (.one 7 .done))) 6 (.one 2 (.one 3 (.one 7 .done)))))))) (fun w' => w'.cell? ⟨g, 0, none⟩ = some v8 ∧ w'.cell? ⟨g + 1, 0, none⟩ = some v9) (by kernel_rfl) (by kernel_rfl) (fun ⟨_, _, h⟩ => h) (fun _ _ d _ _ h => by cases d <;> exact h) ⟨m8, m9⟩ ?_
    have hS : ∀ w3 L' R' v8' v9', App (g + 7) W.drew L' R' v8' v9' w3 → w3.cell? ⟨g, 0, none⟩ = some v8 ∧ w3.cell? ⟨g + 1, 0, none⟩ = some v9 := fun w3 L' R' v8' v9' h => ⟨h.cell (by omega) m8, h.cell (by omega) m9⟩
    have HS := Lib.hid hS
    clear hS m8 m9
    generalize W.drew = W1 at *
    iterate 4
      refine wpTree_take (v := ?_) rfl (by rfl) (fun w hSw => ?_) ?_
      rotate_left 1
      · obtain ⟨k0, k1⟩ := hSw
        go_simp
        with_reducible rfl
      simp only [Act.put, List.setIfInBounds_toArray, List.set_cons_zero, List.set_cons_succ]
    refine wpTree_two rfl rfl (fun K hK => ⟨by rfl, ?_⟩) (fun K hK => ⟨by rfl, ?_⟩)
    · go_simp
      have hA1 := hA.alloc (.cells #[.int .i64 x] 3)
      have nX1 := Row.new (W1) 3 [.int .i64 x]
      refine hK _ _ (HS.out _ _ _ _ _ hA1) ?_
      clear hK K
      try simp only [Act.put, List.setIfInBounds_toArray, List.set_cons_zero, List.set_cons_succ]
      refine wpTree_two rfl rfl (fun K hK => ⟨by rfl, ?_⟩) (fun K hK => ⟨by rfl, ?_⟩)
      · refine wp_append_lies _ _ _ 23 rfl (g + 7) 3 i0 (.int .i64 0) 1 8 Tryz.underlying23 hi hz0' hz1 hz2 rfl (by decide) _ _ _ rfl hA1.o8 ⟨_, 0, none⟩ 1 1 [.int .i64 x] rfl rfl (news_row nX1) (by simp [Value.oneCell']) (by decide) (by unfold maxLen; omega) (by omega) hA1.z _ rfl ?_
        intro g2 cap2 w12 hown hgr hat hlt
        have hA2 := hA1.left hown hgr hat
        refine hK _ _ (HS.out _ _ _ _ _ hA2) ?_
        clear hown hgr hat hlt
        clear hK K
        try simp only [Act.put, List.setIfInBounds_toArray, List.set_cons_zero, List.set_cons_succ]
        refine wpTree_one rfl (fun K hK => ⟨by rfl, ?_⟩)
        go_simp
        have hA3 := hA2.alloc (.cells #[.int .i64 y] 3)
        have nY3 := Row.new (w12) 3 [.int .i64 y]
        try simp only [World.size_alloc] at nY3
        refine hK _ _ (HS.out _ _ _ _ _ hA3) ?_
        clear hK K
        try simp only [Act.put, List.setIfInBounds_toArray, List.set_cons_zero, List.set_cons_succ]
        refine wpTree_one rfl (fun K hK => ⟨by rfl, ?_⟩)
        refine wp_append_lies _ _ _ 23 rfl (g + 7) 3 i0 (.int .i64 0) 1 8 Tryz.underlying23 hi hz0' hz1 hz2 rfl (by decide) _ _ _ rfl hA3.o9 ⟨_, 0, none⟩ 1 1 [.int .i64 y] rfl rfl (news_row nY3) (by simp [Value.oneCell']) (by decide) (by unfold maxLen; omega) (by omega) hA3.z _ rfl ?_
        intro g4 cap4 w14 hown hgr hat hlt
        have hA4 := hA3.right hown hgr hat
        refine hK _ _ (HS.out _ _ _ _ _ hA4) ?_
        clear hown hgr hat hlt
        clear hK K
        try simp only [Act.put, List.setIfInBounds_toArray, List.set_cons_zero, List.set_cons_succ]
        refine wpTree_done ?_
        simp only [List.drop_succ_cons, List.drop_zero]
        obtain ⟨R8, R9⟩ := HROW.out _ _ _ _ _ hA4
        have e8 := st1c R8
        have e9 := st1c R9
        have f8 := R8.frozen 0
        have f9 := R9.frozen 0
        have F := FIN.out _ _ _ hA4
        go_wp2_with fail
        exact F
      · go_simp
        have hA2 := hA1.alloc (.cells #[.int .i64 y] 3)
        have nX2 := nX1.alloc (.cells #[.int .i64 y] 3)
        have nY2 := Row.new (W1.alloc (.cells #[.int .i64 x] 3)) 3 [.int .i64 y]
        try simp only [World.size_alloc] at nY2
        refine hK _ _ (HS.out _ _ _ _ _ hA2) ?_
        clear hK K
        try simp only [Act.put, List.setIfInBounds_toArray, List.set_cons_zero, List.set_cons_succ]
        refine wpTree_one rfl (fun K hK => ⟨by rfl, ?_⟩)
        refine wp_append_lies _ _ _ 23 rfl (g + 7) 3 i0 (.int .i64 0) 1 8 Tryz.underlying23 hi hz0' hz1 hz2 rfl (by decide) _ _ _ rfl hA2.o8 ⟨_, 0, none⟩ 1 1 [.int .i64 x] rfl rfl (news_row nX2) (by simp [Value.oneCell']) (by decide) (by unfold maxLen; omega) (by omega) hA2.z _ rfl ?_
        intro g3 cap3 w13 hown hgr hat hlt
        have hA3 := hA2.left hown hgr hat
        have nY3 := hA2.row nY2 hgr (fun e => by have := (hA.o8.lt _ e).2; first | omega | (simp only [World.size_alloc] at this; omega))
        refine hK _ _ (HS.out _ _ _ _ _ hA3) ?_
        clear hown hgr hat hlt
        clear hK K
        try simp only [Act.put, List.setIfInBounds_toArray, List.set_cons_zero, List.set_cons_succ]
        refine wpTree_one rfl (fun K hK => ⟨by rfl, ?_⟩)
        refine wp_append_lies _ _ _ 23 rfl (g + 7) 3 i0 (.int .i64 0) 1 8 Tryz.underlying23 hi hz0' hz1 hz2 rfl (by decide) _ _ _ rfl hA3.o9 ⟨_, 0, none⟩ 1 1 [.int .i64 y] rfl rfl (news_row nY3) (by simp [Value.oneCell']) (by decide) (by unfold maxLen; omega) (by omega) hA3.z _ rfl ?_
        intro g4 cap4 w14 hown hgr hat hlt
        have hA4 := hA3.right hown hgr hat
        refine hK _ _ (HS.out _ _ _ _ _ hA4) ?_
        clear hown hgr hat hlt
        clear hK K
        try simp only [Act.put, List.setIfInBounds_toArray, List.set_cons_zero, List.set_cons_succ]
        refine wpTree_done ?_
        simp only [List.drop_succ_cons, List.drop_zero]
        obtain ⟨R8, R9⟩ := HROW.out _ _ _ _ _ hA4
        have e8 := st1c R8
        have e9 := st1c R9
        have f8 := R8.frozen 0
        have f9 := R9.frozen 0
        have F := FIN.out _ _ _ hA4
        go_wp2_with fail
        exact F
    · go_simp
      have hA1 := hA.alloc (.cells #[.int .i64 y] 3)
      have nY1 := Row.new (W1) 3 [.int .i64 y]
      refine hK _ _ (HS.out _ _ _ _ _ hA1) ?_
      clear hK K
      try simp only [Act.put, List.setIfInBounds_toArray, List.set_cons_zero, List.set_cons_succ]
      refine wpTree_one rfl (fun K hK => ⟨by rfl, ?_⟩)
      go_simp
      have hA2 := hA1.alloc (.cells #[.int .i64 x] 3)
      have nY2 := nY1.alloc (.cells #[.int .i64 x] 3)
      have nX2 := Row.new (W1.alloc (.cells #[.int .i64 y] 3)) 3 [.int .i64 x]
      try simp only [World.size_alloc] at nX2
      refine hK _ _ (HS.out _ _ _ _ _ hA2) ?_
      clear hK K
      try simp only [Act.put, List.setIfInBounds_toArray, List.set_cons_zero, List.set_cons_succ]
      refine wpTree_one rfl (fun K hK => ⟨by rfl, ?_⟩)
      refine wp_append_lies _ _ _ 23 rfl (g + 7) 3 i0 (.int .i64 0) 1 8 Tryz.underlying23 hi hz0' hz1 hz2 rfl (by decide) _ _ _ rfl hA2.o8 ⟨_, 0, none⟩ 1 1 [.int .i64 x] rfl rfl (news_row nX2) (by simp [Value.oneCell']) (by decide) (by unfold maxLen; omega) (by omega) hA2.z _ rfl ?_
      intro g3 cap3 w13 hown hgr hat hlt
      have hA3 := hA2.left hown hgr hat
      have nY3 := hA2.row nY2 hgr (fun e => by have := (hA.o8.lt _ e).2; first | omega | (simp only [World.size_alloc] at this; omega))
      refine hK _ _ (HS.out _ _ _ _ _ hA3) ?_
      clear hown hgr hat hlt
      clear hK K
      try simp only [Act.put, List.setIfInBounds_toArray, List.set_cons_zero, List.set_cons_succ]
      refine wpTree_one rfl (fun K hK => ⟨by rfl, ?_⟩)
      refine wp_append_lies _ _ _ 23 rfl (g + 7) 3 i0 (.int .i64 0) 1 8 Tryz.underlying23 hi hz0' hz1 hz2 rfl (by decide) _ _ _ rfl hA3.o9 ⟨_, 0, none⟩ 1 1 [.int .i64 y] rfl rfl (news_row nY3) (by simp [Value.oneCell']) (by decide) (by unfold maxLen; omega) (by omega) hA3.z _ rfl ?_
      intro g4 cap4 w14 hown hgr hat hlt
      have hA4 := hA3.right hown hgr hat
      refine hK _ _ (HS.out _ _ _ _ _ hA4) ?_
      clear hown hgr hat hlt
      clear hK K
      try simp only [Act.put, List.setIfInBounds_toArray, List.set_cons_zero, List.set_cons_succ]
      refine wpTree_done ?_
      simp only [List.drop_succ_cons, List.drop_zero]
      obtain ⟨R8, R9⟩ := HROW.out _ _ _ _ _ hA4
      have e8 := st1c R8
      have e9 := st1c R9
      have f8 := R8.frozen 0
      have f9 := R9.frozen 0
      have F := FIN.out _ _ _ hA4
      go_wp2_with fail
      exact F
  case done =>
    intro W hI hsz hD
    rw [wyVals_length] at hI
    rw [hz0] at hD
    obtain ⟨hIb, hIt, v8, v9, k8, k9, o8, o9, dd⟩ := hI
    have z8 : SlI W W.heap.size v8 (leftTo bits l o bits.length) := own_slM (enc := encI) (m := 1) (by rw [flat_ints]; exact o8) (fun x _ => rfl) rfl (by rw [leftTo_length]; omega)
    have z9 : SlI W W.heap.size v9 (rightTo bits l o bits.length) := own_slM (enc := encI) (m := 1) (by rw [flat_ints]; exact o9) (fun x _ => rfl) rfl (by rw [rightTo_length]; omega)
    have p8 := fun (w' : World) (hb : Below W.heap.size W w') => permutation_any _ _ w' ((z8.below hb).mono hb.size)
    have p9 := fun (w' : World) (hb : Below W.heap.size W w') => permutation_any _ _ w' ((z9.below hb).mono hb.size)
    have e8 := st1c k8
    have e9 := st1c k9
    have l8 := k8.lt
    have l9 := k9.lt
    have hWB : wholeB bits l o = (permB (leftTo bits l o bits.length) && permB (rightTo bits l o bits.length)) := by
      unfold wholeB
      rw [decide_eq_true h64, decide_eq_true H1.out, decide_eq_true H2.out, HBIT.out]
      simp
    have hWC : wholeC bits l o = if wholeB bits l o then goTo (leftTo bits l o bits.length) (rightTo bits l o bits.length) else [] := rfl
    have hgt : ∀ j, j < bits.length → (leftTo bits l o bits.length).getD j default = leftAt bits l o j ∧ (rightTo bits l o bits.length).getD j default = rightAt bits l o j := fun j hj => ⟨leftTo_get hj, rightTo_get hj⟩
    obtain ⟨_, A8, c8, rfl, _⟩ := id z8
    obtain ⟨_, A9, c9, rfl, _⟩ := id z9
    have hl8 := leftTo_length bits l o bits.length
    have hl9 := rightTo_length bits l o bits.length
    generalize leftTo bits l o bits.length = L at *
    generalize rightTo bits l o bits.length = R at *
    rw [hl8] at z8 p8 e8 k8
    rw [hl9] at z9 p9 e9 k9
    obtain ⟨b8, hb8⟩ : ∃ b, permB L = b := ⟨_, rfl⟩
    obtain ⟨b9, hb9⟩ : ∃ b, permB R = b := ⟨_, rfl⟩
    rw [hb8] at p8
    rw [hb9] at p9
    rw [hb8, hb9] at hWB
    have P8 := Lib.hid p8
    have P9 := Lib.hid p9
    have Z8 := Lib.hid z8
    have Z9 := Lib.hid z9
    have HL8 := Lib.hid hl8
    have HL9 := Lib.hid hl9
    have HB8 := Lib.hid hb8
    have HGT := Lib.hid hgt
    have HT := Lib.hid hIt
    clear p8 p9 o8 o9 dd hT0 r8 r9 z8 z9 hl8 hl9 hb8 hb9 hgt hIt k8 k9
    cases b8
    · rw [Bool.false_and] at hWB
      rw [hWB, if_neg (by decide)] at hWC
      have HWB := Lib.hid hWB
      have HWC := Lib.hid hWC
      clear hWB hWC
      gi_wp2_with (gi_at_call 41; (with_reducible refine (callsIn_wide.2 (P8.out _ (Below.refl _ _))).mono ?_); rintro e w2 ⟨rfl, hb2⟩)
      have hD' : w2.heap[g + 5]? = some (.deferred (some [])) := (hb2.block _ (by omega)).trans hD
      refine ⟨by simp, .inl ⟨_, _, rfl, run_takeDeferred hD', ?_⟩⟩
      refine ⟨.tuple #[.slice none 0 0, .bool false], ?_, _, by rw [HWB.out], ?_, by rw [HWC.out]; exact SlG.nil_ _ _⟩
      · simp [results, Tryz.f18, go_sem]
      · exact (hIb.trans (hb2.mono hIb.size)).grown (grownBy_putObj' _ (g + 5) (.deferred none)) (Nat.le_trans hIb.size hb2.size) (fun r e => by cases e; omega)
    · cases b9
      · rw [Bool.true_and] at hWB
        rw [hWB, if_neg (by decide)] at hWC
        have HWB := Lib.hid hWB
        have HWC := Lib.hid hWC
        clear hWB hWC
        gi_wp2_with (first | (gi_at_call 41; (with_reducible refine (callsIn_wide.2 (P8.out _ (Below.refl _ _))).mono ?_); rintro e w2 ⟨rfl, hb2⟩; have e9' : w2.cell? ⟨g + 1, 0, none⟩ = _ := (hb2.cell (p := ⟨g + 1, 0, none⟩) l9).trans e9) |
          (gi_at_call 41; (with_reducible refine (callsIn_wide.2 (P9.out _ hb2)).mono ?_); rintro e w3 ⟨rfl, hb3⟩; replace hb2 := hb2.trans (hb3.mono hb2.size)))
        have hD' : w3.heap[g + 5]? = some (.deferred (some [])) := (hb2.block _ (by omega)).trans hD
        refine ⟨by simp, .inl ⟨_, _, rfl, run_takeDeferred hD', ?_⟩⟩
        refine ⟨.tuple #[.slice none 0 0, .bool false], ?_, _, by rw [HWB.out], ?_, by rw [HWC.out]; exact SlG.nil_ _ _⟩
        · simp [results, Tryz.f18, go_sem]
        · exact (hIb.trans (hb2.mono hIb.size)).grown (grownBy_putObj' _ (g + 5) (.deferred none)) (Nat.le_trans hIb.size hb2.size) (fun r e => by cases e; omega)
      · rw [Bool.true_and] at hWB
        rw [hWB, if_pos rfl] at hWC
        have HWB := Lib.hid hWB
        have HWC := Lib.hid hWC
        clear hWB hWC
        obtain ⟨Z, hZ⟩ : ∃ Z, (List.replicate bits.length (Value.int .i64 0)).toArray = Z := ⟨_, rfl⟩
        have hmk : ∀ w : World, (Instr.makeSlice 23 (.int .i64 (bits.length : Int)) (.int .i64 (bits.length : Int))).run Tryz.prog w = .ok (.slice (some ⟨w.heap.size, 0, none⟩) bits.length bits.length) (w.alloc (.cells Z 3)) := fun w => by rw [← hZ]; exact make_ints _ (by omega) w
        gi_wp2_with (first | (gi_at_call 41; (with_reducible refine (callsIn_wide.2 (P8.out _ (Below.refl _ _))).mono ?_); rintro e w2 ⟨rfl, hb2⟩; have e9' : w2.cell? ⟨g + 1, 0, none⟩ = _ := (hb2.cell (p := ⟨g + 1, 0, none⟩) l9).trans e9) |
          (gi_at_call 41; (with_reducible refine (callsIn_wide.2 (P9.out _ hb2)).mono ?_); rintro e w3 ⟨rfl, hb3⟩; replace hb2 := hb2.trans (hb3.mono hb2.size); have e8' : w3.cell? ⟨g, 0, none⟩ = _ := (hb2.cell (p := ⟨g, 0, none⟩) l8).trans e8; have gl8 : g < w3.heap.size := Nat.lt_of_lt_of_le l8 hb2.size))
        have hg : Row (w3.alloc (.cells Z 3)) w3.heap.size 3 ((layTo L.length 0 L (fun j => R.getD j default) 0).map (Value.int .i64)) := by
          rw [layTo_zero, List.map_replicate, HL8.out, ← hZ]
          exact Row.new w3 _ _
        have hb4 := hb2.alloc hb2.size (.cells Z 3)
        have hgz := hb2.size
        have hD3 := hD
        generalize w3.alloc (.cells Z 3) = W4 at *
        generalize w3.heap.size = gp at *
        clear hmk hZ e9' e8' gl8 hb2 hb3
        gi_loopw [63] (fun iv wr => ∃ k : Nat, iv = .int .i64 k ∧ k ≤ bits.length ∧ Below W.heap.size W wr ∧ Row wr gp 3 ((layTo L.length 0 L (fun j => R.getD j default) k).map (Value.int .i64))) (fun iv _ => bits.length - (intOf iv).toNat)
        case atStart => exact ⟨0, rfl, by omega, hb4, hg⟩
        case round =>
          clear hb4 hg
          obtain ⟨k, rfl, hkn, hBr, hR⟩ := hrel
          by_cases hk : k < bits.length
          · obtain ⟨b0, o0, ha0, hb0, e0⟩ := sl_at (Z8.out.below hBr) (j := k) (by rw [HL8.out]; exact hk)
            obtain ⟨b1, o1, ha1, hb1, e1⟩ := sl_at (Z9.out.below hBr) (j := k) (by rw [HL9.out]; exact hk)
            subst ha0 ha1
            have d0 := e0 0 (by omega)
            have d1 := e1 0 (by omega)
            have hat := permB_at HB8.out (k := k) (by rw [HL8.out]; exact hk)
            rw [HL8.out] at hat
            have hsu := layTo_succ L.length 0 L (fun j => R.getD j default) k
            have hln := layTo_length L.length (0 : Int) L (fun j => R.getD j default) k
            obtain ⟨p, hp⟩ : ∃ p : Nat, L.getD k default = p := ⟨(L.getD k default).toNat, by omega⟩
            obtain ⟨q, hq⟩ : ∃ q, R.getD k default = q := ⟨_, rfl⟩
            rw [hp] at hat hsu
            simp only [hq, Int.toNat_natCast] at hsu
            simp only [encI, hp, hq, List.getD_cons_zero, Nat.add_zero, Nat.mul_one] at d0 d1
            have m9 : wr.cell? ⟨g + 1, 0, none⟩ = _ := (hBr.cell (p := ⟨g + 1, 0, none⟩) l9).trans e9
            have hw1 : IntKind.i64.wrap ((k : Int) + 1) = ((k + 1 : Nat) : Int) := by rw [IntWalk.i64_in _ (by omega)]; omega
            have s1 : (0 : Int) ≤ k := by omega
            have s2 : (k : Int) < bits.length := by omega
            obtain ⟨s4, s5⟩ := hat
            have s6 : p < bits.length := by omega
            have hold : ∃ u, wr.cell? ⟨gp, p, none⟩ = some u := ⟨_, by rw [hR.cell, List.getElem?_eq_getElem (by rw [List.length_map, hln, HL8.out]; exact s6)]⟩
            obtain ⟨u, hold⟩ := hold
            have hfz := hR.frozen p
            have fin : Below W.heap.size W (wr.setCell ⟨gp, p, none⟩ (.int .i64 q)) ∧ Row (wr.setCell ⟨gp, p, none⟩ (.int .i64 q)) gp 3 ((layTo L.length 0 L (fun j => R.getD j default) (k + 1)).map (Value.int .i64)) := by
              refine ⟨hBr.setCell (p := ⟨gp, p, none⟩) hgz _, ?_⟩
              have := hR.store p (.int .i64 q)
              rw [hsu, List.map_set]
              exact this
            have FIN := Lib.hid fin
            clear fin hR hsu hln e0 e1 hp hq
            gi_wp2
            refine ⟨⟨k + 1, by first | rfl | go_num, by omega, FIN.out⟩, by simp [intOf]; omega⟩
          · obtain rfl : k = bits.length := by omega
            have hres : Row wr gp 3 ((goTo L R).map (Value.int .i64)) := by
              unfold goTo
              rw [HL8.out] at hR ⊢
              exact hR
            have HRES := Lib.hid hres
            have hgp := hR.lt
            clear hres hR
            gi_wp2
            have hD' : wr.heap[g + 5]? = some (.deferred (some [])) := (hBr.block _ (by omega)).trans hD
            refine ⟨by simp, .inl ⟨_, _, rfl, run_takeDeferred hD', ?_⟩⟩
            refine ⟨.tuple #[.slice (some ⟨gp, 0, none⟩) bits.length bits.length, .bool true], ?_, _, by rw [HWB.out], ?_, ?_⟩
            · simp [results, Tryz.f18, go_sem]
            · exact (hIb.trans (hBr.mono hIb.size)).grown (grownBy_putObj' _ (g + 5) (.deferred none)) (Nat.le_trans hIb.size hBr.size) (fun r e => by cases e; omega)
            · rw [HWC.out]
              have hsz4 := hBr.size
              have hk2 : Row (wr.putObj (g + 5) (.deferred none)) gp 3 ((goTo L R).map (Value.int .i64)) := HRES.out.keep (World.putObj_heap_other (by omega))
              have := row_ints (c := bits.length) hk2 (by rw [goTo_length, HL8.out]; omega) hk2.lt
              rw [goTo_length, HL8.out] at this
              exact this
  case stop =>
    intro c k W hk h hsz hD
    exact h.elim
set_option maxRecDepth 100000 in
set_option maxHeartbeats 4000000 in
theorem whole_any (bits : List Int) (l o : List Og) (v0 v1 v2 : Value) (w : World) (hb : SlI w w.heap.size v0 bits) (hl : SlG 36 Og.cells w w.heap.size v1 l) (ho : SlG 36 Og.cells w w.heap.size v2 o) :
    Calls Tryz.prog 18 #[v0, v1, v2] w fun e w' => ∃ v, e = .returned (.tuple #[v, .bool (wholeB bits l o)]) ∧ Below w.heap.size w w' ∧ SlI w' w'.heap.size v (wholeC bits l o) := by
  obtain ⟨_, A, c, rfl, _⟩ := id hb
  obtain ⟨_, A1, c1, rfl, _⟩ := id hl
  obtain ⟨_, A2, c2, rfl, _⟩ := id ho
  have hWC : wholeC bits l o = if wholeB bits l o then goTo (leftTo bits l o bits.length) (rightTo bits l o bits.length) else [] := rfl
  by_cases h64 : bits.length ≤ 64
  · by_cases hll : l.length = bits.length
    · by_cases hol : o.length = bits.length
      · cases hbit : bits.all bitB with
        | true => exact whole_main bits l o A A1 A2 c c1 c2 w hb hl ho h64 hll hol hbit
        | false =>
          have hWB : wholeB bits l o = false := by unfold wholeB; rw [hbit]; simp
          rw [hWB, if_neg (by decide)] at hWC
          have q1 := binary_any bits _ w hb
          rw [hbit] at q1
          have Q1 := Lib.hid q1
          have s1 : ¬ ((64 : Int) < bits.length) := by omega
          have s2 : ((l.length : Int) != bits.length) = false := by rw [hll]; simp
          have s3 : ((o.length : Int) != bits.length) = false := by rw [hol]; simp
          rw [hWB, hWC]
          clear q1 hb hl ho hbit hll hol hWB hWC h64
          go_enter Tryz.func18, Tryz.ntmps18
          go_wp2_with (go_at_call 35; (with_reducible refine Q1.out.mono ?_); rintro e w1 ⟨rfl, hb⟩)
          go_ret2
          exact ⟨_, rfl, hb, SlG.nil_ _ _⟩
      · have hWB : wholeB bits l o = false := by unfold wholeB; rw [decide_eq_false hol]; simp
        rw [hWB, if_neg (by decide)] at hWC
        have s1 : ¬ ((64 : Int) < bits.length) := by omega
        have s2 : ((l.length : Int) != bits.length) = false := by rw [hll]; simp
        have s3 : ((o.length : Int) != bits.length) = true := by rw [bne_iff_ne]; omega
        rw [hWB, hWC]
        clear hb hl ho hll hol hWB hWC h64
        go_enter Tryz.func18, Tryz.ntmps18
        go_wp2_with fail
        go_ret2
        exact ⟨_, rfl, Below.refl _ _, SlG.nil_ _ _⟩
    · have hWB : wholeB bits l o = false := by unfold wholeB; rw [decide_eq_false hll]; simp
      rw [hWB, if_neg (by decide)] at hWC
      have s1 : ¬ ((64 : Int) < bits.length) := by omega
      have s2 : ((l.length : Int) != bits.length) = true := by rw [bne_iff_ne]; omega
      rw [hWB, hWC]
      clear hb hl ho hll hWB hWC h64
      go_enter Tryz.func18, Tryz.ntmps18
      go_wp2_with fail
      go_ret2
      exact ⟨_, rfl, Below.refl _ _, SlG.nil_ _ _⟩
  · have hWB : wholeB bits l o = false := by unfold wholeB; rw [decide_eq_false h64]; simp
    rw [hWB, if_neg (by decide)] at hWC
    have s1 : ((64 : Int) < bits.length) := by omega
    rw [hWB, hWC]
    clear hb hl ho hWB hWC h64
    go_enter Tryz.func18, Tryz.ntmps18
    go_wp2_with fail
    go_ret2
    exact ⟨_, rfl, Below.refl _ _, SlG.nil_ _ _⟩
end Go.Proofs.YthboebhghaabnaaGreatDoor

set_option linter.unusedSimpArgs false
set_option linter.unusedVariables false
namespace Go.Proofs.YthboebhghaabnaaGreatDoor
open Go.RowKit Fk Sha
/-! A shuffle in the making: what stands between its steps. -/
theorem flat_set6 : ∀ (l : List Se) (k : Nat) (x : Se), k < l.length → ((((((l.flatMap encS).set (k * 6 + 0) (.int .i64 x.x.a)).set (k * 6 + 1) (.int .i64 x.x.b)).set (k * 6 + 2) (.int .i64 x.y.a)).set (k * 6 + 3) (.int .i64 x.y.b)).set (k * 6 + 4) (.int .i64 x.z.a)).set (k * 6 + 5) (.int .i64 x.z.b) = (l.set k x).flatMap encS
  | [], k, x, h => by simp at h
  | a :: l, 0, x, _ => by
    simp only [List.flatMap_cons, List.set_cons_zero, encS, Se.cells, List.cons_append, List.nil_append, Nat.zero_mul, Nat.zero_add]
    rfl
  | a :: l, k + 1, x, h => by
    have ih := flat_set6 l k x (by simpa using h)
    have e : ∀ (L : List Value) (i : Nat) (v : Value), (encS a ++ L).set (6 + i) v = encS a ++ L.set i v := fun L i v => by
      rw [List.set_append_right _ _ (by show (encS a).length ≤ 6 + i; simp [encS, Se.cells])]
      congr 2
      show 6 + i - (encS a).length = i
      simp [encS, Se.cells]
    rw [List.flatMap_cons, List.set_cons_succ, List.flatMap_cons, ← ih]
    rw [show (k + 1) * 6 = 6 + k * 6 by omega]
    simp only [Nat.add_assoc]
    rw [e, e, e, e, e, e]
theorem put6_at {W : World} {g : Nat} {t : TypeId} {l : List Se} (h : Row W g t (l.flatMap encS)) {k : Nat} (hk : k < l.length) (x : Se) : Row (put6 W g (k * 6) x) g t ((l.set k x).flatMap encS) := by
  rw [← flat_set6 l k x hk]
  unfold put6
  exact (((((h.store _ _).store _ _).store _ _).store _ _).store _ _).store _ _
theorem put6_size (W : World) (b o : Nat) (s : Se) : (put6 W b o s).heap.size = W.heap.size := by
  unfold put6; simp [World.setCell]
theorem put6_grown (W : World) (b o : Nat) (s : Se) : W.grownBy (put6 W b o s) (some b) :=
  have h := put6_below (o := o) (s := s) (Below.refl b W) (Nat.le_refl b)
  ⟨h.os, h.tape, h.output, h.size, fun k _ hk => put6_heap (fun e => hk (by rw [e]))⟩
abbrev ownD (base : Nat) (w : World) (v : Value) (l : List (List B)) : Prop := w.ownsRow base 58 32 v l.length (l.flatMap encD)
/-- what is made -/
structure Mk (w : World) (t : Tn) (x : TnA) (A : Option Addr) (n c base gM gO : Nat) (M O : List Se) (L R : List (List B)) (W : World) : Prop where
  b : Below w.heap.size w W
  z : base ≤ W.heap.size
  tn : Row W w.heap.size 27 (x.cells t)
  mx : ∃ vl vr, Row W (w.heap.size + 1) 32 [.slice A n c, .slice (some ⟨gM, 0, none⟩) n n, .slice (some ⟨gO, 0, none⟩) n n, vl, vr] ∧ ownD base W vl L ∧ ownD base W vr R ∧ ∀ k, vl.ownBlock = some k → vr.ownBlock ≠ some k
  rm : Row W gM 45 (M.flatMap encS)
  ro : Row W gO 45 (O.flatMap encS)
  hm : w.heap.size + 2 ≤ gM ∧ gM < base
  ho : w.heap.size + 2 ≤ gO ∧ gO < base
  ne : gM ≠ gO
section
variable {w W W' : World} {t : Tn} {x : TnA} {A : Option Addr} {n c base gM gO : Nat} {M O : List Se} {L R : List (List B)}
theorem own_free {v : Value} {row : Option Nat} (h : ∀ k, v.ownBlock = some k → row ≠ some k) : v.ownBlock = none ∨ v.ownBlock ≠ row := by
  cases hv : v.ownBlock with
  | none => exact .inl rfl
  | some k => exact .inr (fun e => h k hv e.symm)
theorem Mk.below (h : Mk w t x A n c base gM gO M O L R W) (hb : Below W.heap.size W W') : Mk w t x A n c base gM gO M O L R W' := by
  obtain ⟨vl, vr, h1, h2, h3, h4⟩ := h.mx
  have hg := grown_below' hb none
  exact ⟨h.b.trans (hb.mono h.b.size), Nat.le_trans h.z hb.size, h.tn.below hb h.tn.lt, ⟨vl, vr, h1.below hb h1.lt, h2.kept hg (own_free fun _ _ e => by cases e), h3.kept hg (own_free fun _ _ e => by cases e), h4⟩, h.rm.below hb h.rm.lt, h.ro.below hb h.ro.lt, h.hm, h.ho, h.ne⟩
theorem Mk.drew (h : Mk w t x A n c base gM gO M O L R W) : Mk w t x A n c base gM gO M O L R W.drew := h.below (Below.refl _ _).drew
theorem Mk.setM (h : Mk w t x A n c base gM gO M O L R W) {k : Nat} (hk : k < M.length) (s : Se) : Mk w t x A n c base gM gO (M.set k s) O L R (put6 W gM (k * 6) s) := by
  obtain ⟨vl, vr, h1, h2, h3, h4⟩ := h.mx
  have hg := put6_grown W gM (k * 6) s
  have g1 := h.hm
  have g2 := h.ho
  have g3 := h.ne
  have fr : ∀ v : Value, (∀ k, v.ownBlock = some k → base ≤ k) → v.ownBlock = none ∨ v.ownBlock ≠ some gM := fun v hv => own_free fun q hq e => by injection e with e; have := hv q hq; omega
  refine ⟨put6_below h.b (by omega), by rw [put6_size]; exact h.z, h.tn.keep (put6_heap (by omega)), ⟨vl, vr, h1.keep (put6_heap (by omega)), h2.kept hg (fr _ fun q hq => (h2.lt q hq).1), h3.kept hg (fr _ fun q hq => (h3.lt q hq).1), h4⟩, put6_at h.rm hk s, h.ro.keep (put6_heap (fun e => g3 e.symm)), h.hm, h.ho, h.ne⟩
theorem Mk.setO (h : Mk w t x A n c base gM gO M O L R W) {k : Nat} (hk : k < O.length) (s : Se) : Mk w t x A n c base gM gO M (O.set k s) L R (put6 W gO (k * 6) s) := by
  obtain ⟨vl, vr, h1, h2, h3, h4⟩ := h.mx
  have hg := put6_grown W gO (k * 6) s
  have g1 := h.hm
  have g2 := h.ho
  have g3 := h.ne
  have fr : ∀ v : Value, (∀ k, v.ownBlock = some k → base ≤ k) → v.ownBlock = none ∨ v.ownBlock ≠ some gO := fun v hv => own_free fun q hq e => by injection e with e; have := hv q hq; omega
  refine ⟨put6_below h.b (by omega), by rw [put6_size]; exact h.z, h.tn.keep (put6_heap (by omega)), ⟨vl, vr, h1.keep (put6_heap (by omega)), h2.kept hg (fr _ fun q hq => (h2.lt q hq).1), h3.kept hg (fr _ fun q hq => (h3.lt q hq).1), h4⟩, h.rm.keep (put6_heap g3), put6_at h.ro hk s, h.hm, h.ho, h.ne⟩
/-- a list of digests has grown -/
theorem Mk.grownL {vl vr : Value} (h : Mk w t x A n c base gM gO M O L R W) (h1 : Row W (w.heap.size + 1) 32 [.slice A n c, .slice (some ⟨gM, 0, none⟩) n n, .slice (some ⟨gO, 0, none⟩) n n, vl, vr]) (h2 : ownD base W vl L) (h3 : ownD base W vr R) (h4 : ∀ k, vl.ownBlock = some k → vr.ownBlock ≠ some k)
    {g cap : Nat} {d : List B} (hown : W'.ownsRow base 58 32 (.slice (some ⟨g, 0, none⟩) (L.length + 1) cap) (L.length + 1) (L.flatMap encD ++ encD d)) (hgr : W.grownBy W' vl.ownBlock) (hat : vl.ownBlock = some g ∨ W.heap.size ≤ g) :
    Mk w t x A n c base gM gO M O (L ++ [d]) R (W'.setCell ⟨w.heap.size + 1, 3, none⟩ (.slice (some ⟨g, 0, none⟩) (L.length + 1) cap)) := by
  have g1 := h.hm
  have g2 := h.ho
  have hz := h.z
  have k : ∀ b, b < base → W'.heap[b]? = W.heap[b]? := fun b hb => hgr.block b (by omega) (fun e => by have := (h2.lt b e.symm).1; omega)
  have e : ∀ b, b ≠ w.heap.size + 1 → (W'.setCell ⟨w.heap.size + 1, 3, none⟩ (.slice (some ⟨g, 0, none⟩) (L.length + 1) cap)).heap[b]? = W'.heap[b]? := fun b hb => Below.heap_setCell _ _ _ b hb
  refine ⟨(h.b.grown hgr h.b.size (fun r er => by have := (h2.lt r er).1; omega)).setCell (p := ⟨w.heap.size + 1, 3, none⟩) (by show _ ≤ w.heap.size + 1; omega) _, ?_, h.tn.keep ((e _ (by omega)).trans (k _ (by omega))),
    ⟨.slice (some ⟨g, 0, none⟩) (L.length + 1) cap, vr, (Row.keep h1 (k _ (by omega))).store 3 _, ?_, ?_, ?_⟩, h.rm.keep ((e _ (by omega)).trans (k _ (by omega))), h.ro.keep ((e _ (by omega)).trans (k _ (by omega))), h.hm, h.ho, h.ne⟩
  · have := hgr.size; simp [World.setCell]; omega
  · unfold ownD
    rw [List.length_append, List.flatMap_append]
    simpa using own_cell hown (by omega) _ _
  · refine own_cell (h3.kept hgr (own_free fun q hq e2 => ?_)) (by omega) _ _
    exact h4 q e2 hq
  · intro q hq e2
    have hq' : g = q := by injection hq
    subst hq'
    rcases hat with h5 | h5
    · exact h4 _ h5 e2
    · have := (h3.lt _ e2).2; omega
theorem Mk.grownR {vl vr : Value} (h : Mk w t x A n c base gM gO M O L R W) (h1 : Row W (w.heap.size + 1) 32 [.slice A n c, .slice (some ⟨gM, 0, none⟩) n n, .slice (some ⟨gO, 0, none⟩) n n, vl, vr]) (h2 : ownD base W vl L) (h3 : ownD base W vr R) (h4 : ∀ k, vl.ownBlock = some k → vr.ownBlock ≠ some k)
    {g cap : Nat} {d : List B} (hown : W'.ownsRow base 58 32 (.slice (some ⟨g, 0, none⟩) (R.length + 1) cap) (R.length + 1) (R.flatMap encD ++ encD d)) (hgr : W.grownBy W' vr.ownBlock) (hat : vr.ownBlock = some g ∨ W.heap.size ≤ g) :
    Mk w t x A n c base gM gO M O L (R ++ [d]) (W'.setCell ⟨w.heap.size + 1, 4, none⟩ (.slice (some ⟨g, 0, none⟩) (R.length + 1) cap)) := by
  have g1 := h.hm
  have g2 := h.ho
  have hz := h.z
  have k : ∀ b, b < base → W'.heap[b]? = W.heap[b]? := fun b hb => hgr.block b (by omega) (fun e => by have := (h3.lt b e.symm).1; omega)
  have e : ∀ b, b ≠ w.heap.size + 1 → (W'.setCell ⟨w.heap.size + 1, 4, none⟩ (.slice (some ⟨g, 0, none⟩) (R.length + 1) cap)).heap[b]? = W'.heap[b]? := fun b hb => Below.heap_setCell _ _ _ b hb
  refine ⟨(h.b.grown hgr h.b.size (fun r er => by have := (h3.lt r er).1; omega)).setCell (p := ⟨w.heap.size + 1, 4, none⟩) (by show _ ≤ w.heap.size + 1; omega) _, ?_, h.tn.keep ((e _ (by omega)).trans (k _ (by omega))),
    ⟨vl, .slice (some ⟨g, 0, none⟩) (R.length + 1) cap, (Row.keep h1 (k _ (by omega))).store 4 _, ?_, ?_, ?_⟩, h.rm.keep ((e _ (by omega)).trans (k _ (by omega))), h.ro.keep ((e _ (by omega)).trans (k _ (by omega))), h.hm, h.ho, h.ne⟩
  · have := hgr.size; simp [World.setCell]; omega
  · refine own_cell (h2.kept hgr (own_free fun q hq e2 => ?_)) (by omega) _ _
    exact h4 q hq e2
  · unfold ownD
    rw [List.length_append, List.flatMap_append]
    simpa using own_cell hown (by omega) _ _
  · intro q hq e2
    have hq' : g = q := by injection e2
    subst hq'
    rcases hat with h5 | h5
    · exact h4 _ hq h5
    · have := (h2.lt _ hq).2; omega
end
theorem infoS6 : (Tryz.prog.info? 45).map (fun i => (i.zero, i.size, i.bytes)) = some (some (.agg #[.int .i64 0, .int .i64 0, .int .i64 0, .int .i64 0, .int .i64 0, .int .i64 0]), 6, 48) := by kernel_rfl
theorem infoD32 : (Tryz.prog.info? 58).map (fun i => (i.zero, i.size, i.bytes)) = some (some (.agg (List.replicate 32 (Value.int .u8 0)).toArray), 32, 32) := by kernel_rfl
theorem zeros6 : ∀ n : Nat, (List.replicate n (default : Se)).flatMap encS = List.replicate (n * 6) (.int .i64 0)
  | 0 => rfl
  | n + 1 => by
    rw [List.replicate_succ, List.flatMap_cons, zeros6 n, show (n + 1) * 6 = 6 + n * 6 by omega, ← List.replicate_append_replicate]
    rfl
theorem made_se (n : Nat) : madeCells (Value.agg #[.int .i64 0, .int .i64 0, .int .i64 0, .int .i64 0, .int .i64 0, .int .i64 0]).cells (n * 6) = ((List.replicate n (default : Se)).flatMap encS).toArray := by
  rw [zeros6]
  unfold madeCells
  apply Array.ext
  · simp
  · intro m h1 h2
    have key : ∀ k, k < 6 → ((Value.agg #[.int .i64 0, .int .i64 0, .int .i64 0, .int .i64 0, .int .i64 0, .int .i64 0]).cells)[k]! = .int .i64 0 := fun k hk => by
      rcases (show k = 0 ∨ k = 1 ∨ k = 2 ∨ k = 3 ∨ k = 4 ∨ k = 5 by omega) with rfl | rfl | rfl | rfl | rfl | rfl <;> rfl
    have e : (Value.agg #[.int .i64 0, .int .i64 0, .int .i64 0, .int .i64 0, .int .i64 0, .int .i64 0]).cells.size = 6 := rfl
    rw [Array.getElem_map, Array.getElem_range, e, key _ (Nat.mod_lt _ (by omega))]
    simp
theorem make_se (n : Nat) (hn : n ≤ 1000) (w : World) : (Instr.makeSlice 22 (.int .i64 (n : Int)) (.int .i64 (n : Int))).run Tryz.prog w = .ok (.slice (some ⟨w.heap.size, 0, none⟩) n n) (w.alloc (.cells ((List.replicate n (default : Se)).flatMap encS).toArray 45)) := by
  obtain ⟨i0, hi, hz0, hz1, hz2⟩ := info_parts infoS6
  have hr := run_make (P := Tryz.prog) w 22 45 i0 _ Tryz.underlying22 hi hz0 .i64 .i64 (n : Int) (n : Int) (by omega) (by omega) (by rw [hz2]; omega) (by omega)
  simp only [Int.toNat_natCast, hz1] at hr
  rw [hr, made_se n]
theorem one_dg (d : List B) (h : d.length = 32) (w : World) : (Instr.buildSlice 30 1 #[(0, .agg (d.map bv).toArray)]).run Tryz.prog w = .ok (.slice (some ⟨w.heap.size, 0, none⟩) 1 1) (w.alloc (.cells (d.map bv).toArray 58)) := by
  obtain ⟨i0, hi, hz0, hz1, hz2⟩ := info_parts infoD32
  exact one_slice w _ _ _ i0 _ Tryz.underlying30 hi hz0 (by rw [hz1]; simp [h]) (by simp [h]) (by simp [h])
end Go.Proofs.YthboebhghaabnaaGreatDoor

set_option linter.unusedSimpArgs false
set_option linter.unusedVariables false
namespace Go.Proofs.YthboebhghaabnaaGreatDoor
open Go.RowKit Fk Sha
/-! The examples' letters and turn. -/
def ltrX (x : Int) : Se := ⟨⟨x, x⟩, ⟨1, 1⟩, ⟨1, 1⟩⟩
set_option maxRecDepth 100000 in
theorem letter_any (x : Int) (w : World) : Calls Tryz.prog 14 #[.int .i64 x] w fun e w' => e = .returned (.agg #[.int .i64 x, .int .i64 x, .int .i64 1, .int .i64 1, .int .i64 1, .int .i64 1]) ∧ Below w.heap.size w w' := by
  have hB := fun (o : Obj) => below_alloc' w o
  go_enter Tryz.func14, Tryz.ntmps14
  go_wp2_with fail
  exact bodyPost_ret (v := .agg #[.int .i64 x, .int .i64 x, .int .i64 1, .int .i64 1, .int .i64 1, .int .i64 1]) (by simp [results, Tryz.results14, go_sem]) rfl ⟨rfl, hB _⟩
def twT : Tn := ⟨[1, 0], [0, 1], [default, default], [default, default], [List.replicate 64 0, List.replicate 64 0]⟩
def twOb : Nat → Obj
  | 0 => .cells #[.int .i64 1, .int .i64 0] 3
  | 1 => .cells #[.int .i64 0, .int .i64 1] 3
  | 2 => .cells (List.replicate 6 (Value.int .i64 0)).toArray 56
  | 3 => .cells (List.replicate 6 (Value.int .i64 0)).toArray 56
  | _ => .cells (List.replicate 128 (Value.int .u8 0)).toArray 98
def twSl (_ : Nat) (b : Nat) : Value := .slice (some ⟨b, 0, none⟩) 2 2
set_option maxRecDepth 100000 in
set_option maxHeartbeats 4000000 in
theorem two_any (w : World) : Calls Tryz.prog 15 #[] w fun e w' => ∃ x : TnA, e = .returned (.agg (x.cells twT).toArray) ∧ Below w.heap.size w w' ∧ TnS w' w'.heap.size x twT := by
  have hB := below_alloc' w (.cells #[.slice none 0 0, .slice none 0 0, .slice none 0 0, .slice none 0 0, .slice none 0 0] 27)
  have r0 := Row.new w 27 [.slice none 0 0, .slice none 0 0, .slice none 0 0, .slice none 0 0, .slice none 0 0]
  go_enter Tryz.func15, Tryz.ntmps15
  go_upto_region 1 with fail
  obtain ⟨W, hW⟩ : ∃ W, w.alloc (.cells #[.slice none 0 0, .slice none 0 0, .slice none 0 0, .slice none 0 0, .slice none 0 0] 27) = W := ⟨_, rfl⟩
  replace r0 : Row W w.heap.size 27 [.slice none 0 0, .slice none 0 0, .slice none 0 0, .slice none 0 0, .slice none 0 0] := hW ▸ r0
  rw [hW] at hB ⊢
  clear hW
  refine wp_region_lays 5 twOb (fun i => i + 1) twSl (by kernel_rfl) (by kernel_rfl) (fun i hi => ?_) (fun i j _ _ e => by omega) (fun i hi => by simp; omega) (fun b W' hb hne hbe => ?_)
  · rcases (show i = 0 ∨ i = 1 ∨ i = 2 ∨ i = 3 ∨ i = 4 by omega) with rfl | rfl | rfl | rfl | rfl
    all_goals exact ⟨_, rfl, rfl, rfl, fun a w => by kernel_rfl⟩
  · have hlt := r0.lt
    have r1 := r0.below hbe hlt
    have hz := hbe.size
    have hbb : ∀ i, i < 5 → W'.heap[b i]? = some (twOb i) ∧ w.heap.size < b i := fun i hi => ⟨(hb i hi).1, by have := (hb i hi).2; omega⟩
    obtain ⟨p0, q0⟩ := hbb 0 (by omega)
    obtain ⟨p1, q1⟩ := hbb 1 (by omega)
    obtain ⟨p2, q2⟩ := hbb 2 (by omega)
    obtain ⟨p3, q3⟩ := hbb 3 (by omega)
    obtain ⟨p4, q4⟩ := hbb 4 (by omega)
    simp only [putAll, twSl, Act.put, List.setIfInBounds_toArray, List.set_cons_zero, List.set_cons_succ, List.drop_succ_cons, List.drop_zero, Nat.zero_add, Nat.reduceAdd]
    generalize b 0 = g0 at *
    generalize b 1 = g1 at *
    generalize b 2 = g2 at *
    generalize b 3 = g3 at *
    generalize b 4 = g4 at *
    have m0 : W'.cell? ⟨w.heap.size, 0, none⟩ = some _ := r1.cell 0
    have m1 : W'.cell? ⟨w.heap.size, 1, none⟩ = some _ := r1.cell 1
    have m2 : W'.cell? ⟨w.heap.size, 2, none⟩ = some _ := r1.cell 2
    have m3 : W'.cell? ⟨w.heap.size, 3, none⟩ = some _ := r1.cell 3
    have m4 : W'.cell? ⟨w.heap.size, 4, none⟩ = some _ := r1.cell 4
    have ff := fun i => Row.frozen r1 i
    have hbw : Below w.heap.size w W' := hB.trans (hbe.mono hB.size)
    have fin : ∀ W2 : World, (∀ k, k ≠ w.heap.size → W2.heap[k]? = W'.heap[k]?) → W2.heap.size = W'.heap.size → TnS W2 W2.heap.size ⟨some ⟨g0, 0, none⟩, 2, some ⟨g1, 0, none⟩, 2, some ⟨g2, 0, none⟩, 2, some ⟨g3, 0, none⟩, 2, some ⟨g4, 0, none⟩, 2⟩ twT := by
      intro W2 hk hs
      have lt : ∀ g i, W'.heap[g]? = some (twOb i) → g < W2.heap.size := fun g i h => by rw [hs]; exact (Array.getElem?_eq_some_iff.1 h).1
      have k0 : Row W2 g0 3 ([1, 0].flatMap encI) := (hk g0 (by omega)).trans p0
      have k1 : Row W2 g1 3 ([0, 1].flatMap encI) := (hk g1 (by omega)).trans p1
      have k2 : Row W2 g2 56 (([default, default] : List Tr).flatMap Tr.cells) := (hk g2 (by omega)).trans p2
      have k3 : Row W2 g3 56 (([default, default] : List Tr).flatMap Tr.cells) := (hk g3 (by omega)).trans p3
      have k4 : Row W2 g4 98 (([List.replicate 64 0, List.replicate 64 0] : List (List B)).flatMap encD) := (hk g4 (by omega)).trans p4
      exact ⟨Row.sl (m := 1) (c := 2) (l := [1, 0]) k0 (fun _ => rfl) (by decide) (lt g0 0 p0), Row.sl (m := 1) (c := 2) (l := [0, 1]) k1 (fun _ => rfl) (by decide) (lt g1 1 p1), Row.sl (m := 3) (c := 2) (l := [default, default]) k2 (fun _ => rfl) (by decide) (lt g2 2 p2), Row.sl (m := 3) (c := 2) (l := [default, default]) k3 (fun _ => rfl) (by decide) (lt g3 3 p3), row_slM (m := 64) (c := 2) (l := [List.replicate 64 0, List.replicate 64 0]) k4 (fun x hx => by
        simp at hx; subst hx; simp [encD]) (by decide) (lt g4 4 p4)⟩
    have FIN := Lib.hid fin
    clear fin p0 p1 p2 p3 p4 hb
    go_wp2_with fail
    refine bodyPost_ret (v := .agg #[.slice (some ⟨g0, 0, none⟩) 2 2, .slice (some ⟨g1, 0, none⟩) 2 2, .slice (some ⟨g2, 0, none⟩) 2 2, .slice (some ⟨g3, 0, none⟩) 2 2, .slice (some ⟨g4, 0, none⟩) 2 2]) (by simp [results, Tryz.results15, go_sem, m0, m1, m2, m3, m4]) rfl ?_
    refine ⟨⟨some ⟨g0, 0, none⟩, 2, some ⟨g1, 0, none⟩, 2, some ⟨g2, 0, none⟩, 2, some ⟨g3, 0, none⟩, 2, some ⟨g4, 0, none⟩, 2⟩, rfl, ?_, FIN.out _ (fun k hk => ?_) ?_⟩
    · exact ((((hbw.setCell (p := ⟨w.heap.size, 0, none⟩) (Nat.le_refl _) _).setCell (p := ⟨w.heap.size, 1, none⟩) (Nat.le_refl _) _).setCell (p := ⟨w.heap.size, 2, none⟩) (Nat.le_refl _) _).setCell (p := ⟨w.heap.size, 3, none⟩) (Nat.le_refl _) _).setCell (p := ⟨w.heap.size, 4, none⟩) (Nat.le_refl _) _
    · rw [Below.heap_setCell _ _ _ k hk, Below.heap_setCell _ _ _ k hk, Below.heap_setCell _ _ _ k hk, Below.heap_setCell _ _ _ k hk, Below.heap_setCell _ _ _ k hk]
    · simp [World.setCell]
end Go.Proofs.YthboebhghaabnaaGreatDoor

set_option linter.unusedSimpArgs false
set_option linter.unusedVariables false
namespace Go.Proofs.YthboebhghaabnaaGreatDoor
open Go.RowKit Fk Sha
/-! What the examples of law 14 come to. -/
def zTn : Tn := ⟨[], [], [], [], []⟩
def sX : List Se := [ltrX 4, ltrX 16]
def sY : List Se := [ltrX 16, ltrX 4]
def badT : Tn := ⟨[0, 0], [0, 1], [default, default], [default, default], [List.replicate 64 0, List.replicate 64 0]⟩
theorem ok_ltr {x : Int} (h : vld x = true) : okS (ltrX x) = true := by
  unfold okS okC ltrX
  rw [h, vld_1]
  rfl
theorem vld16x : vld 16 = true := by rw [vld_K]; decide +kernel
theorem ok4 : okS (ltrX 4) = true := ok_ltr vld_4
theorem ok16 : okS (ltrX 16) = true := ok_ltr vld16x
theorem pw0 : powC 4 0 = 1 := by unfold powC; rw [vld_4]; rfl
theorem ag (s : Se) (h : okS s = true) : againC 4 s default = s.map (moreC 4 default) := by unfold againC; rw [vld_4, h]; rfl
theorem get0 : (default : Tr).get 0 = 0 := rfl
theorem get1 : (default : Tr).get 1 = 0 := rfl
theorem get2 : (default : Tr).get 2 = 0 := rfl
theorem ag4 : againC 4 (ltrX 4) default = ltrX 4 := by rw [ag _ ok4]; unfold Se.map moreC; rw [get0, get1, get2, pw0]; rfl
theorem ag16 : againC 4 (ltrX 16) default = ltrX 16 := by rw [ag _ ok16]; unfold Se.map moreC; rw [get0, get1, get2, pw0]; rfl
theorem okX : sX.all okS = true := by unfold sX; rw [List.all_cons, List.all_cons, ok4, ok16]; rfl
theorem okY : sY.all okS = true := by unfold sY; rw [List.all_cons, List.all_cons, ok4, ok16]; rfl
theorem a_mixE : mixE 4 sX twT = 0 := by unfold mixE; rw [vld_4, okX]; rfl
theorem a_mixE2 : mixE 2 [] zTn = 90 := by unfold mixE; rw [vld_2]; rfl
theorem a_mixE0 : mixE 4 [] zTn = 0 := by unfold mixE; rw [vld_4]; rfl
theorem a_openE0 : openE zTn [1] = 140 := by kernel_rfl
theorem a_openE1 : openE twT [0, 1] = 0 := by kernel_rfl
theorem a_openE2 : openE twT [1, 0] = 0 := by kernel_rfl
theorem a_traceE : traceE twT = 0 := by kernel_rfl
theorem a_traceC : traceC twT = [1, 0] := by kernel_rfl
theorem a_traceB : traceE badT = 140 := by kernel_rfl
theorem a_zero : mixC 4 [] zTn = ⟨[], [], [], [], []⟩ := by unfold mixC; rw [a_mixE0]; rfl
theorem a_mixC : mixC 4 sX twT = mixTo 4 sX twT 2 := by unfold mixC; rw [a_mixE]; rfl
theorem mid0 : midAt 4 sX twT 0 = ltrX 16 := by
  have e : midAt 4 sX twT 0 = againC 4 (ltrX 16) default := rfl
  rw [e, ag16]
theorem mid1 : midAt 4 sX twT 1 = ltrX 4 := by
  have e : midAt 4 sX twT 1 = againC 4 (ltrX 4) default := rfl
  rw [e, ag4]
theorem out0 : outAt 4 sX twT 0 = ltrX 16 := by unfold outAt; rw [mid0]; exact ag16
theorem out1 : outAt 4 sX twT 1 = ltrX 4 := by unfold outAt; rw [mid1]; exact ag4
theorem a_mid : (mixC 4 sX twT).m = sY := by
  have e : (mixTo 4 sX twT 2).m = [midAt 4 sX twT 0, midAt 4 sX twT 1] := rfl
  rw [a_mixC, e, mid0, mid1]; rfl
theorem a_out : (mixC 4 sX twT).o = sY := by
  have e : (mixTo 4 sX twT 2).o = [outAt 4 sX twT 0, outAt 4 sX twT 1] := rfl
  rw [a_mixC, e, out0, out1]; rfl
theorem a_in : (mixC 4 sX twT).i = sX := by rw [a_mixC]; rfl
theorem a_l : (mixC 4 sX twT).l.length = 2 := by rw [a_mixC]; rfl
theorem a_r : (mixC 4 sX twT).r.length = 2 := by rw [a_mixC]; rfl
def oX : List Og := [ogL twT 0, ogR twT 1]
def oY : List Og := [ogR twT 0, ogL twT 1]
theorem a_openC1 : openC twT [0, 1] = oX := by unfold openC; rw [a_openE1]; rfl
theorem a_openC2 : openC twT [1, 0] = oY := by unfold openC; rw [a_openE2]; rfl
theorem a_one : oX = [⟨1, default, List.replicate 32 0⟩, ⟨1, default, List.replicate 32 0⟩] := by kernel_rfl
theorem a_wholeB : wholeB [0, 1] oX oY = true := by kernel_rfl
theorem a_wholeC : wholeC [0, 1] oX oY = [1, 0] := by kernel_rfl
theorem a_wholeN : wholeB [0, 1] oX oX = false := by kernel_rfl
theorem a_check0 : checkB 4 zMx [] [] = true := by unfold checkB formB; rw [vld_4]; rfl
theorem a_check2 : checkB 2 zMx [] [] = false := by unfold checkB formB; rw [vld_2]; rfl
theorem a_fit0 : fitsB 4 (mixC 4 sX twT) 0 0 (ogL twT 0) = true := by
  refine fitsB_iff.2 ⟨by decide, by rw [a_in]; decide, ?_, ?_⟩
  · rw [if_pos rfl, a_mixC]; exact map_range_get (fun j => comN tagL (ogL twT j)) (k := 2) (j := 0) (by omega)
  · rw [if_pos rfl, a_in, a_mid]; exact ag16
theorem a_fit1 : fitsB 4 (mixC 4 sX twT) 1 1 (ogR twT 1) = true := by
  refine fitsB_iff.2 ⟨by decide, by rw [a_in]; decide, ?_, ?_⟩
  · rw [if_neg (by decide), a_mixC]; exact map_range_get (fun j => comN tagR (ogR twT j)) (k := 2) (j := 1) (by omega)
  · rw [if_neg (by decide), a_out, a_mid]; exact ag4
theorem a_fitN : fitsB 4 (mixC 4 sX twT) 1 0 (ogR twT 1) = false := by
  rw [Bool.eq_false_iff]
  intro h
  obtain ⟨_, _, _, h4⟩ := fitsB_iff.1 h
  rw [if_pos rfl, a_in, a_mid] at h4
  have e : againC 4 (sX.getD (ogR twT 1).a.toNat default) (ogR twT 1).r = ltrX 16 := ag16
  rw [e] at h4
  exact absurd (congrArg (fun s : Se => s.x.a) h4) (by decide)
theorem a_checkY : checkB 4 (mixC 4 sX twT) [0, 1] oX = true := by
  have h0 := a_fit0
  have h1 := a_fit1
  unfold checkB longB formB
  rw [a_mid, a_out, a_in, a_l, a_r]
  have e : (List.range sX.length).all (fun j => fitsB 4 (mixC 4 sX twT) j (([0, 1] : List Int).getD j default) (oX.getD j default)) = true := by
    rw [show List.range sX.length = [0, 1] from rfl]
    simp only [List.all_cons, List.all_nil, Bool.and_true, Bool.and_eq_true]
    exact ⟨h0, h1⟩
  rw [e, vld_4, okX, okY]
  rfl
theorem a_checkN : checkB 4 (mixC 4 sX twT) [0, 0] oX = false := by
  have h1 := a_fitN
  unfold checkB
  have e : (List.range (mixC 4 sX twT).i.length).all (fun j => fitsB 4 (mixC 4 sX twT) j (([0, 0] : List Int).getD j default) (oX.getD j default)) = false := by
    rw [a_in, show List.range sX.length = [0, 1] from rfl]
    simp only [List.all_cons, List.all_nil, Bool.and_true]
    rw [show fitsB 4 (mixC 4 sX twT) 1 (([0, 0] : List Int).getD 1 default) (oX.getD 1 default) = false from h1, Bool.and_false]
  rw [e]
  simp only [Bool.false_and, Bool.and_false]
end Go.Proofs.YthboebhghaabnaaGreatDoor

set_option linter.unusedSimpArgs false
set_option linter.unusedVariables false
namespace Go.Proofs.YthboebhghaabnaaGreatDoor
open Go.RowKit Fk Sha

set_option maxHeartbeats 1000000 in
theorem sameints13_any (l : List Int) (v v2 : Value) (w : World) (B0 : Nat) (hB : B0 ≤ w.heap.size) (h : SlI w B0 v l) (h2 : SlI w B0 v2 l) :
    Calls Tryz.prog 42 #[v, v2] w fun e w' => e = .returned (.bool true) ∧ Below w.heap.size w w' := by
  have HS := Lib.hid h
  have HS2 := Lib.hid h2
  obtain ⟨hlen, A, c, rfl, _⟩ := h
  obtain ⟨_, A2, c2, rfl, _⟩ := h2
  go_enter Tryz.func42, Tryz.ntmps42
  go_wp2
  go_loopg [5] l.length (fun g i wr => Below w.heap.size w wr ∧ ∃ k : Nat, i = .int .i64 k ∧ k + g = l.length)
  case atStart => exact ⟨Below.refl _ _, 0, rfl, by omega⟩
  case round =>
    obtain ⟨hBr, k, rfl, hk⟩ := hrel
    by_cases hlt : k < l.length
    · obtain ⟨_, A', c', hv, hE⟩ := HS.out.below (hBr.mono hB)
      obtain ⟨b, off, rfl, hb, hE⟩ := hE (by omega)
      cases hv
      obtain ⟨_, A3, c3, hv, hE2⟩ := HS2.out.below (hBr.mono hB)
      obtain ⟨b2, off2, rfl, hb2, hE2⟩ := hE2 (by omega)
      cases hv
      have d1 := hE.int hlt
      have d2 := hE2.int hlt
      generalize l.getD k default = m at d1 d2
      have s0 : (m != m) = false := by simp
      have s2 : (0 : Int) ≤ (k : Int) := by omega
      have s3 : ((k : Int)).toNat = k := by omega
      have s4 : (k : Int) < l.length := by omega
      clear hE hE2
      go_wp2
      go_quiet (fail)
      clear s2 s3 s4
      go_wp2
      go_roundg (gk - 1)
      case measure => omega
      case rel => exact ⟨by first | exact hBr | exact hBr.trans (below_drewN _ _ _), k + 1, by go_num, by omega⟩
    · go_wp2
      go_ret
      exact ⟨rfl, hBr⟩

set_option maxRecDepth 100000 in
theorem sameints14_any (l : List Int) (v v2 : Value) (w : World) (B0 : Nat) (hB : B0 ≤ w.heap.size) (h : SlI w B0 v l) (h2 : SlI w B0 v2 l) :
    Calls Tryz.prog 21 #[v, v2] w fun e w' => e = .returned (.bool true) ∧ Below w.heap.size w w' := by
  go_enter Tryz.func21, Tryz.ntmps21
  have HS := Lib.hid (sameints13_any l v v2 w B0 hB h h2)
  clear h h2 hB
  go_wp2_with (go_at_call 42; refine HS.out.mono ?_; rintro e w1 ⟨rfl, hb⟩)
  go_ret
  exact ⟨rfl, hb⟩
set_option maxRecDepth 100000 in
set_option maxHeartbeats 2000000 in
theorem same10_any (l : List Se) (v v2 : Value) (w : World) (B0 : Nat) (hB : B0 ≤ w.heap.size) (h : SlS w B0 v l) (h2 : SlS w B0 v2 l) :
    Calls Tryz.prog 19 #[v, v2] w fun e w' => e = .returned (.bool true) ∧ Below w.heap.size w w' := by
  have HS := Lib.hid h
  have HS2 := Lib.hid h2
  obtain ⟨hlen, A, c, rfl, _⟩ := h
  obtain ⟨_, A2, c2, rfl, _⟩ := h2
  go_enter Tryz.func19, Tryz.ntmps19
  go_wp2
  go_loopg [5] l.length (fun g i wr => Below w.heap.size w wr ∧ ∃ k : Nat, i = .int .i64 k ∧ k + g = l.length)
  case atStart => exact ⟨Below.refl _ _, 0, rfl, by omega⟩
  case round =>
    obtain ⟨hBr, k, rfl, hk⟩ := hrel
    by_cases hlt : k < l.length
    · obtain ⟨_, A', c', hv, hE⟩ := HS.out.below (hBr.mono hB)
      obtain ⟨b, off, rfl, hb, hE⟩ := hE (by omega)
      cases hv
      obtain ⟨_, A3, c3, hv, hE2⟩ := HS2.out.below (hBr.mono hB)
      obtain ⟨b2, off2, rfl, hb2, hE2⟩ := hE2 (by omega)
      cases hv
      have d0 := hE k hlt 0 (by omega)
      have d1 := hE k hlt 1 (by omega)
      have d2 := hE k hlt 2 (by omega)
      have d3 := hE k hlt 3 (by omega)
      have d4 := hE k hlt 4 (by omega)
      have d5 := hE k hlt 5 (by omega)
      have f0 := hE2 k hlt 0 (by omega)
      have f1 := hE2 k hlt 1 (by omega)
      have f2 := hE2 k hlt 2 (by omega)
      have f3 := hE2 k hlt 3 (by omega)
      have f4 := hE2 k hlt 4 (by omega)
      have f5 := hE2 k hlt 5 (by omega)
      generalize l.getD k default = m at d0 d1 d2 d3 d4 d5 f0 f1 f2 f3 f4 f5
      simp only [encS, Se.cells, List.getD_cons_zero, List.getD_cons_succ, Nat.add_zero] at d0 d1 d2 d3 d4 d5 f0 f1 f2 f3 f4 f5
      have bq := fun w => runS m m w
      rw [show eqSe m m = true from eqSe_self m] at bq
      unfold Se.val at bq
      have s2 : (0 : Int) ≤ (k : Int) := by omega
      have s3 : ((k : Int)).toNat = k := by omega
      have s4 : (k : Int) < l.length := by omega
      clear hE hE2
      go_wp2
      go_quiet (fail)
      clear s2 s3 s4
      go_wp2
      go_roundg (gk - 1)
      case measure => omega
      case rel => exact ⟨by first | exact hBr | exact hBr.trans (below_drewN _ _ _), k + 1, by go_num, by omega⟩
    · go_wp2
      go_ret
      exact ⟨rfl, hBr⟩
end Go.Proofs.YthboebhghaabnaaGreatDoor

set_option linter.unusedSimpArgs false
set_option linter.unusedVariables false
namespace Go.Proofs.YthboebhghaabnaaGreatDoor
open Go.RowKit Fk Sha
/-! Two rows of openings, alike. -/
set_option maxRecDepth 100000 in
set_option maxHeartbeats 2000000 in
theorem sameopened_any (l : List Og) (v v2 : Value) (w : World) (B0 : Nat) (hB : B0 ≤ w.heap.size) (hok : ∀ i, i < l.length → (l.getD i default).s.length = 32) (h : SlG 36 Og.cells w B0 v l) (h2 : SlG 36 Og.cells w B0 v2 l) :
    Calls Tryz.prog 20 #[v, v2] w fun e w' => e = .returned (.bool true) ∧ Below w.heap.size w w' := by
  have HS := Lib.hid h
  have HS2 := Lib.hid h2
  obtain ⟨hlen, A, c, rfl, _⟩ := h
  obtain ⟨_, A2, c2, rfl, _⟩ := h2
  go_enter Tryz.func20, Tryz.ntmps20
  go_wp2
  go_loopg [5] l.length (fun g i wr => Below w.heap.size w wr ∧ ∃ k : Nat, i = .int .i64 k ∧ k + g = l.length)
  case atStart => exact ⟨Below.refl _ _, 0, rfl, by omega⟩
  case round =>
    obtain ⟨hBr, k, rfl, hk⟩ := hrel
    by_cases hlt : k < l.length
    · obtain ⟨_, A', c', hv, hE⟩ := HS.out.below (hBr.mono hB)
      obtain ⟨b, off, rfl, hb, hE⟩ := hE (by omega)
      cases hv
      obtain ⟨_, A3, c3, hv, hE2⟩ := HS2.out.below (hBr.mono hB)
      obtain ⟨b2, off2, rfl, hb2, hE2⟩ := hE2 (by omega)
      cases hv
      have hl := hok k hlt
      have rg := range_sl (enc := Og.cells) (m := 36) (hE k hlt) (og_len hl)
      have rg2 := range_sl (enc := Og.cells) (m := 36) (hE2 k hlt) (og_len hl)
      generalize l.getD k default = o at hl rg rg2
      have bq := fun w => runO o o hl hl w
      rw [eqOg_iff.2 rfl] at bq
      have s2 : (0 : Int) ≤ (k : Int) := by omega
      have s3 : ((k : Int)).toNat = k := by omega
      have s4 : (k : Int) < l.length := by omega
      clear hE hE2 hok
      go_upto_region 5 with fail
      refine wp_region_tree 8 (.take 0 (.take 1 (.take 2 (.take 3 (.take 4 (.take 5 (.take 6 (.take 7 .done)))))))) (fun w' => w'.rangeAt b (off + k * 36) o.cells ∧ w'.rangeAt b2 (off2 + k * 36) o.cells) (by kernel_rfl) (by kernel_rfl) (fun _ _ d _ _ h => by cases d <;> exact h) ⟨rg, rg2⟩ ?_
      iterate 3
        refine wpTree_take (v := ?_) rfl (by kernel_rfl) (fun w hSw => ?_) ?_
        rotate_left 1
        · go_simp
          with_reducible rfl
        simp only [Act.put, List.getElem_toArray, List.getElem_cons_succ, List.getElem_cons_zero, List.setIfInBounds_toArray, List.set_cons_zero, List.set_cons_succ]
      refine wpTree_take (v := .agg o.cells.toArray) rfl (by kernel_rfl) (fun w hSw => exec_load (ty := 60) (x := .tmp 19) (p := .pointer (some ⟨b, off + k * 36, none⟩)) (by kernel_rfl) (by kernel_rfl) (run_loadAt_mid w b (off + k * 36) 60 o.cells _ hSw.1 Tryz.underlying60 rfl (sizeOg hl))) ?_
      simp only [Act.put, List.getElem_toArray, List.getElem_cons_succ, List.getElem_cons_zero, List.setIfInBounds_toArray, List.set_cons_zero, List.set_cons_succ]
      iterate 3
        refine wpTree_take (v := ?_) rfl (by kernel_rfl) (fun w hSw => ?_) ?_
        rotate_left 1
        · go_simp
          with_reducible rfl
        simp only [Act.put, List.getElem_toArray, List.getElem_cons_succ, List.getElem_cons_zero, List.setIfInBounds_toArray, List.set_cons_zero, List.set_cons_succ]
      refine wpTree_take (v := .agg o.cells.toArray) rfl (by kernel_rfl) (fun w hSw => exec_load (ty := 60) (x := .tmp 23) (p := .pointer (some ⟨b2, off2 + k * 36, none⟩)) (by kernel_rfl) (by kernel_rfl) (run_loadAt_mid w b2 (off2 + k * 36) 60 o.cells _ hSw.2 Tryz.underlying60 rfl (sizeOg hl))) ?_
      simp only [Act.put, List.getElem_toArray, List.getElem_cons_succ, List.getElem_cons_zero, List.setIfInBounds_toArray, List.set_cons_zero, List.set_cons_succ]
      refine wpTree_done ?_
      simp only [List.drop_succ_cons, List.drop_zero]
      clear s2 s3 s4 rg rg2 hl
      have hBd : Below w.heap.size w wr.drew := hBr.trans (Below.refl _ _).drew
      clear hBr
      generalize o.cells.toArray = cs at bq ⊢
      generalize wr.drew = W1 at *
      go_wp2
      go_roundg (gk - 1)
      case measure => omega
      case rel => exact ⟨hBd, k + 1, by go_num, by omega⟩
    · go_wp2
      go_ret
      exact ⟨rfl, hBr⟩
end Go.Proofs.YthboebhghaabnaaGreatDoor
