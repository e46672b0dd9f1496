import Derived.Test.YthckledagggoiaaGreatDoorAs5
set_option linter.unusedSimpArgs false
set_option linter.unusedVariables false
namespace Go.Proofs.YthckledagggoiaaGreatDoor
open Go.RowKit Go.MapKept Go.Shelf Fk
attribute [local go_sem] Oper.semAt_some
/-! aliases.Book -/
def bookE (s : Int) (l : List En) (n o day time : Int) : Int := if ckE s o (manyP n) = 0 then stE l day time else ckE s o (manyP n)
def bookA (s o : Int) (L : List Int) : List Int := L.map fun p => aliasN s p o
def bookL (s : Int) (l : List En) (n o day time : Int) : List Int := if bookE s l n o day time = 0 then sortU (bookA s o (livK l o day time n.toNat)) else []
theorem livK_bd {l : List En} {o day time : Int} {n : Nat} {p : Int} (h : p ∈ livK l o day time n) : 0 ≤ p ∧ p < n := by
  unfold livK at h
  obtain ⟨k, hk, rfl⟩ := List.mem_map.1 h
  have := List.mem_range.1 (List.mem_filter.1 hk).1
  omega
theorem livK_len (l : List En) (o day time : Int) (n : Nat) : (livK l o day time n).length ≤ n := by
  unfold livK
  rw [List.length_map]
  exact Nat.le_trans (List.length_filter_le _ _) (by simp)
theorem slG_putObj {α : Type} [Inhabited α] {m : Nat} {enc : α → List Value} {X : World} {v : Value} {l : List α} (hm : 0 < m) (h : SlG m enc X X.heap.size v l) {d : Nat} (o : Obj) (hD : X.heap[d]? = some (.deferred (some []))) : SlG m enc (X.putObj d o) (X.putObj d o).heap.size v l := by
  obtain ⟨hl, A, c, hv, hE⟩ := h
  refine ⟨hl, A, c, hv, fun hp => ?_⟩
  obtain ⟨b, off, hA, hb, hC⟩ := hE hp
  have hne : d ≠ b := fun e => by
    subst e
    have h1 := hC 0 hp 0 hm
    simp [World.cell?, hD] at h1
  refine ⟨b, off, hA, by simp; exact hb, hC.keep (World.putObj_heap_other (by first | exact hne | exact hne.symm))⟩
theorem keyW_alias (s p o : Int) : keyW (aliasN s p o) := by
  unfold aliasN
  obtain ⟨x, hx⟩ : ∃ x, powC 4 (if 1 < aliasH s p o then aliasH s p o else 1) = x := ⟨_, rfl⟩
  rw [hx]
  have h : 0 ≤ numC x ∧ numC x < 4611686018427387904 := by
    unfold numC
    split
    · rename_i hv
      have l1 := vld_lo hv
      have l2 := vld_hi hv
      split <;> omega
    · omega
  unfold keyW
  simp [Lit.wf, IntKind.min, IntKind.max, IntKind.signed, IntKind.bits]
  omega
set_option maxRecDepth 100000 in
set_option maxHeartbeats 2000000 in
theorem book_ck (s : Int) (l : List En) (A : Option Addr) (q c : Nat) (n o day time : Int) (w : World) (hc : ckE s o (manyP n) ≠ 0) :
    Calls Tryz.prog 30 #[.int .i64 s, .slice A q c, .int .i64 n, .int .i64 o, .int .i64 day, .int .i64 time] w fun e w' => e = .returned (.tuple #[.slice none 0 0, .int .i64 (ckE s o (manyP n))]) ∧ Below w.heap.size w w' := by
  have hck := fun (ok : Bool) (W : World) => acheck_any s o ok W
  have HC := Lib.hid hck
  have HB := Lib.hid (((Below.refl w.heap.size w).alloc (Nat.le_refl _) (.cells #[.int .i64 s] 3)).alloc (by simp) (.cells #[.int .i64 o] 3))
  have b6 := ((Boxed.new w 3 (.int .i64 s)).alloc (.cells #[.int .i64 o] 3)).cell
  clear hck
  unfold manyP at hc ⊢
  rcases idP_cases n 1024 with ⟨h0, hi⟩ | ⟨h0, hi⟩
  · rw [hi] at hc ⊢
    have f0 : decide (0 ≤ n) = false := decide_eq_false (by omega)
    obtain ⟨C, hC⟩ : ∃ C, ckE s o false = C := ⟨_, rfl⟩
    have HC2 := fun W => by have := HC.out false W; rw [hC] at this; exact this
    rw [hC] at hc ⊢
    have HCC := Lib.hid HC2
    have f1 : (C != 0) = true := bne_iff_ne.2 hc
    clear HC HC2 hC h0 hi hc
    go_enter Tryz.func30, Tryz.ntmps30
    go_wp2_with (go_at_call 48; (with_reducible refine (HCC.out _).mono ?_); rintro e X ⟨rfl, rfl⟩)
    go_ret2
    exact ⟨rfl, HB.out⟩
  · rw [hi] at hc ⊢
    have f0 : decide (0 ≤ n) = true := decide_eq_true h0
    obtain ⟨b, hb⟩ : ∃ b, decide (n ≤ 1024) = b := ⟨_, rfl⟩
    rw [hb] at hc ⊢
    obtain ⟨C, hC⟩ : ∃ C, ckE s o b = C := ⟨_, rfl⟩
    have HC2 := fun W => by have := HC.out b W; rw [hC] at this; exact this
    rw [hC] at hc ⊢
    have HCC := Lib.hid HC2
    have f1 : (C != 0) = true := bne_iff_ne.2 hc
    clear HC HC2 hC h0 hi hc
    go_enter Tryz.func30, Tryz.ntmps30
    go_wp2_with (go_at_call 48; (with_reducible refine (HCC.out _).mono ?_); rintro e X ⟨rfl, rfl⟩)
    go_ret2
    exact ⟨rfl, HB.out⟩
set_option maxRecDepth 100000 in
set_option maxHeartbeats 2000000 in
theorem book_st (s : Int) (l : List En) (v : Value) (n o day time : Int) (w : World) (h : SlE w w.heap.size v l) (hc : ckE s o (manyP n) = 0) (hs : stE l day time ≠ 0) :
    Calls Tryz.prog 30 #[.int .i64 s, v, .int .i64 n, .int .i64 o, .int .i64 day, .int .i64 time] w fun e w' => e = .returned (.tuple #[.slice none 0 0, .int .i64 (stE l day time)]) ∧ Below w.heap.size w w' := by
  have hck := fun (W : World) => acheck_any s o true W
  obtain ⟨h1, h2, h3⟩ := ckE_0 hc
  rw [h2] at hc
  rw [hc] at hck
  unfold manyP at h2
  simp only [Bool.and_eq_true, decide_eq_true_eq] at h2
  have f0 : decide (0 ≤ n) = true := decide_eq_true h2.1
  have f1 : decide (n ≤ 1024) = true := decide_eq_true h2.2
  have HC := Lib.hid hck
  have HB := Lib.hid (((Below.refl w.heap.size w).alloc (Nat.le_refl _) (.cells #[.int .i64 s] 3)).alloc (by simp) (.cells #[.int .i64 o] 3))
  have b6 := ((Boxed.new w 3 (.int .i64 s)).alloc (.cells #[.int .i64 o] 3)).cell
  have hst := stand_any l v day time _ ((h.below HB.out).mono HB.out.size)
  obtain ⟨E, hE⟩ : ∃ E, stE l day time = E := ⟨_, rfl⟩
  rw [hE] at hst hs
  rw [hE]
  have HST := Lib.hid hst
  have f2 : (E != 0) = true := bne_iff_ne.2 hs
  clear hck h1 h2 h3 hc hst hE hs h
  go_enter Tryz.func30, Tryz.ntmps30
  go_wp2_with (first | (go_at_call 48; (with_reducible refine (HC.out _).mono ?_); rintro e X ⟨rfl, hX⟩; subst X) | (go_at_call 76; (with_reducible refine HST.out.mono ?_); rintro e w1 ⟨⟨xv, rfl, hx⟩, hb1⟩; clear hx))
  go_ret2
  exact ⟨rfl, HB.out.trans (hb1.mono HB.out.size)⟩
set_option maxRecDepth 100000 in
set_option maxHeartbeats 4000000 in
theorem book_good (s : Int) (l : List En) (v : Value) (n : Nat) (o day time : Int) (w : World) (hT : TabOK w) (h : SlE w w.heap.size v l) (hc : ckE s o (manyP n) = 0) (hs : stE l day time = 0) :
    Calls Tryz.prog 30 #[.int .i64 s, v, .int .i64 n, .int .i64 o, .int .i64 day, .int .i64 time] w fun e w' => ∃ x, e = .returned (.tuple #[x, .int .i64 0]) ∧ SlI w' w'.heap.size x (sortU (bookA s o (livK l o day time n))) ∧ Below w.heap.size w w' := by
  have hck := fun (W : World) => acheck_any s o true W
  obtain ⟨h1, h2, h3⟩ := ckE_0 hc
  rw [h2] at hc
  rw [hc] at hck
  unfold manyP at h2
  simp only [Bool.and_eq_true, decide_eq_true_eq] at h2
  have hn : n ≤ 1024 := by omega
  have f0 : decide (0 ≤ (n : Int)) = true := decide_eq_true h2.1
  have f1 : decide ((n : Int) ≤ 1024) = true := decide_eq_true h2.2
  have HC := Lib.hid hck
  have HB := Lib.hid (((Below.refl w.heap.size w).alloc (Nat.le_refl _) (.cells #[.int .i64 s] 3)).alloc (by simp) (.cells #[.int .i64 o] 3))
  have bx6 := (Boxed.new w 3 (.int .i64 s)).alloc (.cells #[.int .i64 o] 3)
  have b6 := bx6.cell
  have bx9 : Boxed ((w.alloc (.cells #[.int .i64 s] 3)).alloc (.cells #[.int .i64 o] 3)) (w.heap.size + 1) 3 (.int .i64 o) := by
    have := Boxed.new (w.alloc (.cells #[.int .i64 s] 3)) 3 (.int .i64 o); rw [World.size_alloc] at this; exact this
  have hst := stand_any l v day time _ ((h.below HB.out).mono HB.out.size)
  rw [hs] at hst
  have HST := Lib.hid hst
  have HS := Lib.hid h
  obtain ⟨hl, A, c, rfl, _⟩ := h
  have hmm := @run_makeMap Tryz.prog
  have hlv := living_any A l.length c n o day time
  have HLV := Lib.hid hlv
  have hof := fun (p : Int) (h0 : 0 ≤ p ∧ p < 4611686018427387904) (W : World) (hb : Below w.heap.size w W) => of_any s p o (small3 ⟨by omega, by omega⟩ ⟨by omega, by omega⟩ ⟨by omega, by omega⟩) W (hT.below hb)
  have HOF := Lib.hid hof
  have H6 := Lib.hid bx6
  have H9 := Lib.hid bx9
  obtain ⟨LV, hLV⟩ : ∃ LV, livK l o day time n = LV := ⟨_, rfl⟩
  rw [hLV]
  have HLI := Lib.hid hLV
  clear hck h1 h2 h3 hc hst hs hlv hof bx6 bx9 hT hl hLV
  refine (callsIn_wide (n := 3)).1 ?_
  refine callsIn_of_wp_marks Tryz.func30 rfl trivial ?_ rfl
  simp only [Tryz.ntmps30, List.size_toArray, List.length_cons, List.length_nil, Nat.reduceAdd, Nat.reduceSub, Array.replicate_succ, Array.replicate_zero, List.push_toArray, List.append_toArray, List.nil_append, List.cons_append]
  gi_wp2_with (first
    | (refine ⟨trivial, ?_⟩; gi_at_call 48; refine (callsIn_wide.2 (HC.out _)).mono ?_; rintro e X ⟨rfl, hX⟩; subst X)
    | (refine ⟨trivial, ?_⟩; gi_at_call 76; refine (callsIn_wide.2 HST.out).mono ?_; rintro e w1 ⟨⟨xv, rfl, hx⟩, hb1⟩; clear hx; have hz1 := hb1.size; rw [World.size_alloc, World.size_alloc] at hz1; have p6 : Boxed w1 w.heap.size 3 (.int .i64 s) := (hb1.block _ (by simp; omega)).trans H6.out; have p9 : Boxed w1 (w.heap.size + 1) 3 (.int .i64 o) := (hb1.block _ (by simp)).trans H9.out; have c9 := ((p9.alloc (.map #[] 0)).alloc (.cells #[.map (some w1.heap.size)] 131)).cell)
    | (refine ⟨trivial, ?_⟩; gi_at_call 77; refine (callsIn_wide.2 (HLV.out _)).mono ?_; rintro e w2 ⟨rfl, rfl⟩))
  obtain ⟨W0, hW0⟩ : ∃ W0 : World, ((((((w1.alloc (.map #[] 0)).alloc (.cells #[.map (some w1.heap.size)] 131)).alloc (.cells #[.slice A l.length c] 26)).alloc (.cells #[.int .i64 (n : Int)] 3)).alloc (.cells #[.int .i64 o] 3)).alloc (.cells #[.int .i64 day] 3)).alloc (.cells #[.int .i64 time] 3) = W0 := ⟨_, rfl⟩
  have hz : W0.heap.size = w1.heap.size + 7 := by rw [← hW0]; simp
  have kM : MapI W0 w1.heap.size [] := by
    rw [← hW0]
    have hb0 := MapI.made w1
    refine hb0.below ?_
    exact ((((((Below.refl _ _).alloc (Nat.le_refl _) _).alloc (by simp) _).alloc (by simp only [World.size_alloc]; omega) _).alloc (by simp only [World.size_alloc]; omega) _).alloc (by simp only [World.size_alloc]; omega) _).alloc (by simp only [World.size_alloc]; omega) _
  have k14 : Boxed W0 (w1.heap.size + 1) 131 (.map (some w1.heap.size)) := by
    rw [← hW0]; have := Boxed.new (w1.alloc (.map #[] 0)) 131 (.map (some w1.heap.size)); rw [World.size_alloc] at this; exact ((((this.alloc _).alloc _).alloc _).alloc _).alloc _
  have kl : Boxed W0 (w1.heap.size + 1 + 1) 26 (.slice A l.length c) := by
    rw [← hW0]; have := Boxed.new ((w1.alloc (.map #[] 0)).alloc (.cells #[.map (some w1.heap.size)] 131)) 26 (.slice A l.length c); rw [World.size_alloc, World.size_alloc] at this; exact (((this.alloc _).alloc _).alloc _).alloc _
  have kn : Boxed W0 (w1.heap.size + 1 + 1 + 1) 3 (.int .i64 (n : Int)) := by
    rw [← hW0]; have := Boxed.new (((w1.alloc (.map #[] 0)).alloc (.cells #[.map (some w1.heap.size)] 131)).alloc (.cells #[.slice A l.length c] 26)) 3 (.int .i64 (n : Int)); rw [World.size_alloc, World.size_alloc, World.size_alloc] at this; exact ((this.alloc _).alloc _).alloc _
  have ko : Boxed W0 (w1.heap.size + 1 + 1 + 2) 3 (.int .i64 o) := by
    rw [← hW0]; have := Boxed.new ((((w1.alloc (.map #[] 0)).alloc (.cells #[.map (some w1.heap.size)] 131)).alloc (.cells #[.slice A l.length c] 26)).alloc (.cells #[.int .i64 (n : Int)] 3)) 3 (.int .i64 o); rw [World.size_alloc, World.size_alloc, World.size_alloc, World.size_alloc] at this; exact (this.alloc _).alloc _
  have kd : Boxed W0 (w1.heap.size + 1 + 1 + 3) 3 (.int .i64 day) := by
    rw [← hW0]; have := Boxed.new (((((w1.alloc (.map #[] 0)).alloc (.cells #[.map (some w1.heap.size)] 131)).alloc (.cells #[.slice A l.length c] 26)).alloc (.cells #[.int .i64 (n : Int)] 3)).alloc (.cells #[.int .i64 o] 3)) 3 (.int .i64 day); rw [World.size_alloc, World.size_alloc, World.size_alloc, World.size_alloc, World.size_alloc] at this; exact this.alloc _
  have kt : Boxed W0 (w1.heap.size + 1 + 1 + 4) 3 (.int .i64 time) := by
    rw [← hW0]; have := Boxed.new ((((((w1.alloc (.map #[] 0)).alloc (.cells #[.map (some w1.heap.size)] 131)).alloc (.cells #[.slice A l.length c] 26)).alloc (.cells #[.int .i64 (n : Int)] 3)).alloc (.cells #[.int .i64 o] 3)).alloc (.cells #[.int .i64 day] 3)) 3 (.int .i64 time); rw [World.size_alloc, World.size_alloc, World.size_alloc, World.size_alloc, World.size_alloc, World.size_alloc] at this; exact this
  have hBW : Below w1.heap.size w1 W0 := by rw [← hW0]; exact (((((((Below.refl _ _).alloc (Nat.le_refl _) _).alloc (by simp) _).alloc (by simp only [World.size_alloc]; omega) _).alloc (by simp only [World.size_alloc]; omega) _).alloc (by simp only [World.size_alloc]; omega) _).alloc (by simp only [World.size_alloc]; omega) _).alloc (by simp only [World.size_alloc]; omega) _
  have hBw : Below w.heap.size w w1 := HB.out.trans (hb1.mono HB.out.size)
  have kS : SlE W0 w.heap.size (.slice A l.length c) l := HS.out.below (hBw.trans (hBW.mono (by omega)))
  rw [hW0]
  have HBW := Lib.hid hBW
  clear hW0 b6 c9 hb1 HB HC HST HLV H6 H9 f0 f1 hBW hmm
  have hLV := HLI.out
  have hseq := living_seq l (.slice A l.length c) n o day time hn (w1.heap.size + 1 + 1 + 1) (w1.heap.size + 1 + 1) (w1.heap.size + 1 + 1 + 3) (w1.heap.size + 1 + 1 + 4) (w1.heap.size + 1 + 1 + 2) (W0.heap.size + 2) w.heap.size (by omega) 2 (by omega)
  have hLb : ∀ p, p ∈ LV → 0 ≤ p ∧ p < 4611686018427387904 := fun p hp => by rw [← hLV] at hp; have := livK_bd hp; omega
  have hLl : LV.length ≤ 1024 := by rw [← hLV]; exact Nat.le_trans (livK_len _ _ _ _ _) hn
  rw [hLV] at hseq
  clear hLV HLI
  refine wpIn_rangeL (w := W0) rfl (by omega) (gf := 127) (lb := #[.pointer (some ⟨w1.heap.size + 1 + 1 + 1, 0, none⟩), .pointer (some ⟨w1.heap.size + 1 + 1, 0, none⟩), .pointer (some ⟨w1.heap.size + 1 + 1 + 3, 0, none⟩), .pointer (some ⟨w1.heap.size + 1 + 1 + 4, 0, none⟩), .pointer (some ⟨w1.heap.size + 1 + 1 + 2, 0, none⟩)]) rfl trivial (enters_of Tryz.func127 (by kernel_rfl) rfl)
    hseq
    (fun W hW => ⟨(hW.block _ (by omega)).trans kn, (hW.block _ (by omega)).trans kl, (hW.block _ (by omega)).trans kd, (hW.block _ (by omega)).trans kt, (hW.block _ (by omega)).trans ko, kS.below (hW.mono (by omega))⟩) (by omega) (fun h => h) (fun h => h)
    (fun v hv => by obtain ⟨p, _, rfl⟩ := List.mem_map.1 hv; rfl)
    (fun j W => MapI W w1.heap.size (bookA s o (LV.take j)) ∧ Boxed W (w1.heap.size + 1) 131 (.map (some w1.heap.size)) ∧ Below w1.heap.size w1 W)
    (fun cd j W => False)
    (fun j W W' row hs hg hr => by
      have hr' : ∀ r, row = some r → r = W0.heap.size + 1 := fun r e => (hr r e).resolve_left (fun h => h)
      exact ⟨hs.1.kept hg (fun e => by have := hr' _ e.symm; omega), hs.2.1.kept hg (fun e => by have := hr' _ e.symm; omega), hs.2.2.grown hg hs.2.2.size (fun r e => by have := hr' _ e; omega)⟩)
    (fun cd j W W' row h hg hr => h)
    ⟨kM, k14, HBW.out⟩
    (fun j a' W => ∃ p, LV[j]? = some p ∧ a' = { tmps := #[Value.int IntKind.i64 s, Value.slice A l.length c, Value.int IntKind.i64 (n : Int), Value.int IntKind.i64 o, Value.int IntKind.i64 day, Value.int IntKind.i64 time, Value.pointer (some { block := w.heap.size, off := 0 }), undef, undef, Value.pointer (some { block := (w.heap.size + 1), off := 0 }), undef, undef, Value.slice none 0 0, Value.int IntKind.i64 0, Value.pointer (some { block := (w1.heap.size + 1), off := 0 }), Value.int IntKind.i64 p, Value.int IntKind.i64 s, Value.int IntKind.i64 o, Value.int IntKind.i64 (n : Int), Value.bool true, Value.bool true, Value.int IntKind.i64 (n : Int), Value.bool true, Value.bool true, Value.int IntKind.i64 0, Value.int IntKind.i64 0, Value.bool false, undef, Value.tuple #[xv, Value.int IntKind.i64 0], Value.slice A l.length c, Value.int IntKind.i64 day, Value.int IntKind.i64 time, Value.tuple #[xv, Value.int IntKind.i64 0], xv, Value.int IntKind.i64 0, Value.int IntKind.i64 0, Value.bool false, undef, Value.map (some w1.heap.size), Value.slice A l.length c, Value.int IntKind.i64 (n : Int), Value.int IntKind.i64 o, Value.int IntKind.i64 day, Value.int IntKind.i64 time, Value.func (Fn.func 127) #[] #[Value.pointer (some { block := (w1.heap.size + 1 + 1 + 1), off := 0 }), Value.pointer (some { block := (w1.heap.size + 1 + 1), off := 0 }), Value.pointer (some { block := (w1.heap.size + 1 + 1 + 3), off := 0 }), Value.pointer (some { block := (w1.heap.size + 1 + 1 + 4), off := 0 }), Value.pointer (some { block := (w1.heap.size + 1 + 1 + 2), off := 0 })], Value.int IntKind.i64 p, undef, undef, undef, undef, undef, undef, undef], defers := [] })
    (fun j a' _ W W' row h hg hr => h) ?assign ?body ?done ?stop
  case assign =>
    rintro L j v W K hI hv hsz hK
    rw [List.getElem?_map] at hv
    obtain ⟨q, hq, rfl⟩ := Option.map_eq_some_iff.1 hv
    clear hv
    have HI := Lib.hid hI
    clear hI
    gi_wp2
    exact hK _ _ (Kept.refl _ _) (SameOn.refl _ _) HI.out ⟨q, hq, rfl⟩
  case body =>
    rintro L j v a' W ⟨i1, i2, i3⟩ ⟨p, hp, rfl⟩ hv hsz
    have hpL := hLb p (List.mem_of_getElem? hp)
    have hjl : j < LV.length := (List.getElem?_eq_some_iff.1 hp).1
    have htk : bookA s o (LV.take (j + 1)) = bookA s o (LV.take j) ++ [aliasN s p o] := by unfold bookA; rw [List.take_add_one, hp]; simp
    have hll : (bookA s o (LV.take j)).length < 100000 := by unfold bookA; rw [List.length_map, List.length_take]; omega
    have p6X : Boxed W w.heap.size 3 (.int .i64 s) := (i3.block _ (by omega)).trans p6
    have p9X : Boxed W (w.heap.size + 1) 3 (.int .i64 o) := (i3.block _ (by omega)).trans p9
    have hsW := i3.size
    have hlm := i1.lt
    have ofX := fun (X : World) (hX : Below W.heap.size W X) => HOF.out p hpL X (hBw.trans ((i3.trans (hX.mono i3.size)).mono (by omega)))
    obtain ⟨al, hal⟩ : ∃ al, aliasN s p o = al := ⟨_, rfl⟩
    have hwa : keyW al := by rw [← hal]; exact keyW_alias s p o
    rw [hal] at ofX htk
    have OF := Lib.hid ofX
    have HI1 := Lib.hid i1
    have HI2 := Lib.hid i2
    have HI3 := Lib.hid i3
    have HTK := Lib.hid htk
    have HWA := Lib.hid hwa
    have HLLB := Lib.hid hll
    clear hp hv ofX hal i1 i3 htk hwa hll hseq hLb kM k14 kl kn ko kd kt kS
    gi_wp2
    refine wpIn_region_det 5 (fun X => Below W.heap.size W X) (by kernel_rfl) (by kernel_rfl) (fun ⟨_, _, h⟩ => h) (Below.refl _ _).drew ?_
    iterate 4
      refine wpDet_take (v := ?_) rfl (by kernel_rfl) (fun X hX => ?_) ?_
      rotate_left 1
      · have q1 := (show Boxed X (w1.heap.size + 1) 131 (.map (some w1.heap.size)) from (hX.block _ i2.lt).trans i2).cell
        have q2 := (show Boxed X w.heap.size 3 (.int .i64 s) from (hX.block _ p6X.lt).trans p6X).cell
        have q3 := (show Boxed X (w.heap.size + 1) 3 (.int .i64 o) from (hX.block _ p9X.lt).trans p9X).cell
        go_simp
        with_reducible rfl
      simp only [Act.put, List.getElem_toArray, List.getElem_cons_succ, List.getElem_cons_zero, List.setIfInBounds_toArray, List.set_cons_zero, List.set_cons_succ]
    refine wpDet_call (v := .int .i64 al) rfl (by kernel_rfl) (fun X hX K hK => ?_) ?_
    · go_simp
      go_at_call 49
      refine (OF.out X hX).mono ?_
      rintro e X2 ⟨rfl, hb⟩
      exact hK _ (hX.trans (hb.mono hX.size))
    simp only [Act.put, List.getElem_toArray, List.getElem_cons_succ, List.getElem_cons_zero, List.setIfInBounds_toArray, List.set_cons_zero, List.set_cons_succ]
    refine wpDet_done (fun X hX => ?_)
    obtain ⟨X2, hrun, hm2, hg2⟩ := (HI1.out.below hX).put HLLB.out HWA.out
    have hzX := hX.size
    have fin : postL W0.heap.size (fun r => r = w1.heap.size + 1 + 1 + 1 ∨ r = w1.heap.size + 1 + 1 ∨ r = w1.heap.size + 1 + 1 + 3 ∨ r = w1.heap.size + 1 + 1 + 4 ∨ r = w1.heap.size + 1 + 1 + 2 ∨ r < w.heap.size) (fun j W => MapI W w1.heap.size (bookA s o (LV.take j)) ∧ Boxed W (w1.heap.size + 1) 131 (.map (some w1.heap.size)) ∧ Below w1.heap.size w1 W) (fun cd j W => False) (j + 1) W .normal { tmps := #[], defers := [] } X2 := by
      have hkk : ∀ r, r < W.heap.size → r ≠ w1.heap.size → X2.heap[r]? = W.heap[r]? := fun r h1 h2 => (hg2.block r (by omega) (fun e => h2 (Option.some.inj e))).trans (hX.block r h1)
      refine ⟨⟨Nat.le_trans hzX hg2.size, hkk _ (by omega) (by omega), hkk _ (by omega) (by omega)⟩, fun r hr => hkk r (by rcases hr with h | h | h | h | h | h <;> omega) (by rcases hr with h | h | h | h | h | h <;> omega), ?_, ?_, ?_⟩
      · rw [HTK.out]; exact hm2
      · exact (hkk _ (by omega) (by omega)).trans HI2.out
      · exact (HI3.out.trans (hX.mono hsW)).grown hg2 (by omega) (fun r e => by have := Option.some.inj e; omega)
    have FIN := Lib.hid fin
    clear fin hm2 hg2 hX
    go_wp2
    gi_wp2
    have HR := FIN.out
    first | exact HR | (rw [hz] at HR; exact HR)
  case done =>
    rintro W ⟨i1, i2, i3⟩ hsz hD
    rw [List.length_map, List.take_length] at i1
    rw [hz] at hD
    have hsr := i1.sorted (by unfold bookA; rw [List.length_map]; omega)
    have HSR := Lib.hid hsr
    have HD := Lib.hid hD
    have hsW := i3.size
    have HB3 := Lib.hid (hBw.trans (i3.mono (by omega)))
    have c14 := i2.cell
    clear i1 hseq hLb kM k14 kl kn ko kd kt kS hsr hD hBw i3
    gi_wp2_with (refine ⟨trivial, ?_⟩; gi_at_call 78; refine (callsIn_wide.2 HSR.out).mono ?_; rintro e X ⟨xr, rfl, hx, hb⟩)
    have hDX : X.heap[w1.heap.size + 7]? = some (.deferred (some [])) := (hb.block _ (by omega)).trans HD.out
    refine ⟨by simp, .inl ⟨_, _, rfl, run_takeDeferred hDX, ?_⟩⟩
    refine ⟨.tuple #[xr, .int .i64 0], ?_, ⟨xr, rfl, ?_, ?_⟩⟩
    · simp [results, Tryz.f30, go_sem]
    · exact slG_putObj (by omega) hx (.deferred none) hDX
    · have hX2 := HB3.out.trans (hb.mono (by have := HB3.out.size; omega))
      exact hX2.grown (grownBy_putObj' _ (w1.heap.size + 7) (.deferred none)) hX2.size (fun r e => by have := Option.some.inj e; omega)
  case stop => exact fun _ _ _ _ h => h.elim
theorem book_any (s : Int) (l : List En) (v : Value) (n o day time : Int) (w : World) (hT : TabOK w) (h : SlE w w.heap.size v l) :
    Calls Tryz.prog 30 #[.int .i64 s, v, .int .i64 n, .int .i64 o, .int .i64 day, .int .i64 time] w fun e w' => ∃ x, e = .returned (.tuple #[x, .int .i64 (bookE s l n o day time)]) ∧ SlI w' w'.heap.size x (bookL s l n o day time) ∧ Below w.heap.size w w' := by
  by_cases hc : ckE s o (manyP n) = 0
  · have e1 : bookE s l n o day time = stE l day time := by unfold bookE; rw [if_pos hc]
    unfold bookL
    rw [e1]
    by_cases hs : stE l day time = 0
    · rw [if_pos hs, hs]
      obtain ⟨_, h2, _⟩ := ckE_0 hc
      unfold manyP at h2
      simp only [Bool.and_eq_true, decide_eq_true_eq] at h2
      obtain ⟨N, rfl⟩ : ∃ N : Nat, n = (N : Int) := ⟨n.toNat, by omega⟩
      rw [Int.toNat_natCast]
      exact book_good s l v N o day time w hT h hc hs
    · rw [if_neg hs]
      refine (book_st s l v n o day time w h hc hs).mono ?_
      rintro e w' ⟨rfl, hb⟩
      exact ⟨_, rfl, SlG.nil_ _ _, hb⟩
  · have e1 : bookE s l n o day time = ckE s o (manyP n) := by unfold bookE; rw [if_neg hc]
    unfold bookL
    rw [e1, if_neg hc]
    obtain ⟨hl, A, c, rfl, _⟩ := h
    refine (book_ck s l A l.length c n o day time w hc).mono ?_
    rintro e w' ⟨rfl, hb⟩
    exact ⟨_, rfl, SlG.nil_ _ _, hb⟩
end Go.Proofs.YthckledagggoiaaGreatDoor
