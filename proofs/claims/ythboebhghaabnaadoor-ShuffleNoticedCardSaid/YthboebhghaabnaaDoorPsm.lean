import Derived.Test.YthboebhghaabnaaDoorPsl
set_option linter.unusedSimpArgs false
set_option linter.unusedVariables false
namespace Go.Proofs.YthboebhghaabnaaDoor
open Go.RowKit Fk Sha
/-! The reference of law 14: the halves of a letter; turns that are right; Open and Trace. -/
set_option maxRecDepth 100000 in
set_option maxHeartbeats 8000000 in
theorem rhalf0_any (t : Tn) (x : TnA) (j : Nat) (w : World) (h : TnS w w.heap.size x t) (hl : j < t.l.length) (hrl : j < t.rl.length) (hs : j < t.s.length) (h64 : (t.s.getD j default).length = 64) :
    Calls Tryd.prog 47 #[.agg (x.cells t).toArray, .int .i64 j, .int .i64 0] w fun e w' => e = .returned (.agg (ogL t j).cells.toArray) ∧ Below w.heap.size w w' := by
  have hB := (below_alloc' w (.cells (x.cells t).toArray 26)).alloc (by simp) (.cells zOgC.toArray 60)
  have r0 := Row.new w 26 (x.cells t)
  have r1 := r0.alloc (.cells zOgC.toArray 60)
  have r2 := Row.new (w.alloc (.cells (x.cells t).toArray 26)) 60 zOgC
  rw [World.size_alloc] at r2
  have h2 := h.below hB
  obtain ⟨W, hW⟩ : ∃ W : World, (w.alloc (.cells (x.cells t).toArray 26)).alloc (.cells zOgC.toArray 60) = W := ⟨_, rfl⟩
  rw [hW] at hB r1 r2 h2
  unfold TnA.cells at r1 hW ⊢
  have c0 : W.cell? ⟨w.heap.size, 0, none⟩ = some _ := r1.cell 0
  have c2 : W.cell? ⟨w.heap.size, 2, none⟩ = some _ := r1.cell 2
  have c4 : W.cell? ⟨w.heap.size, 4, none⟩ = some _ := r1.cell 4
  obtain ⟨b0, o0, ha0, hb0, e0⟩ := sl_at h2.l hl
  obtain ⟨b2, o2, ha2, hb2, e2⟩ := sl_at h2.rl hrl
  obtain ⟨b4, o4, ha4, hb4, e4⟩ := sl_at h2.s hs
  have hog : ogL t j = ⟨t.l.getD j default, t.rl.getD j default, ((t.s.getD j default).drop 0).take 32⟩ := rfl
  have hld := range_32 0 e4 h64 (by omega)
  rw [ha0] at c0 hW ⊢
  rw [ha2] at c2 hW ⊢
  rw [ha4] at c4 hW ⊢
  rw [hog]
  clear hog ha0 ha2 ha4 e4
  obtain ⟨sl, hsl⟩ : ∃ sl, ((t.s.getD j default).drop 0).take 32 = sl := ⟨_, rfl⟩
  have hsl32 : sl.length = 32 := by rw [← hsl, List.length_take, List.length_drop, h64]; rfl
  rw [hsl] at hld ⊢
  obtain ⟨o, ho⟩ : ∃ o : Og, (⟨t.l.getD j default, t.rl.getD j default, sl⟩ : Og) = o := ⟨_, rfl⟩
  have hlen : o.cells.length = 36 := by rw [← ho]; simp [Og.cells, hsl32]
  have hone : ∀ v ∈ o.cells, v.oneCell' = true := og_one o
  have hst := fun (W' : World) (hR : Row W' (w.heap.size + 1) 60 zOgC) => store_og o.cells (by rw [← ho]; simp [Og.cells, hsl32]) hone hR (by simp [zOgC])
  rw [ho]
  have d0 := e0 0 (by omega)
  have d2 := e2 0 (by omega)
  have d3 := e2 1 (by omega)
  have d4 := e2 2 (by omega)
  replace d0 : W.cell? ⟨b0, o0 + j, none⟩ = some (.int .i64 o.a) := by rw [← ho]; simpa [encI] using d0
  replace d2 : W.cell? ⟨b2, o2 + j * 3, none⟩ = some (.int .i64 o.r.p) := by rw [← ho]; simpa [Tr.cells] using d2
  replace d3 : W.cell? ⟨b2, o2 + j * 3 + 1, none⟩ = some (.int .i64 o.r.q) := by rw [← ho]; simpa [Tr.cells] using d3
  replace d4 : W.cell? ⟨b2, o2 + j * 3 + 2, none⟩ = some (.int .i64 o.r.r) := by rw [← ho]; simpa [Tr.cells] using d4
  have hrg : W.drew.rangeAt b4 (o4 + j * 64) (o.s.map bv) := by rw [← ho]; exact hld
  have hinf : (Tryd.prog.info? 58).map (·.size) = some (o.s.map bv).length := by rw [← ho, List.length_map, hsl32]; kernel_rfl
  have hbt : Tryd.prog.built 60 [(0, .int .i64 o.a), (1, .agg #[.int .i64 o.r.p, .int .i64 o.r.q, .int .i64 o.r.r]), (2, .agg (o.s.map bv).toArray)] = some o.cells.toArray := built_og o (by rw [← ho]; exact hsl32)
  have hst2 := hst W.drew r2
  have s1 : (0 : Int) ≤ j := by omega
  have s2 : (j : Int) < t.l.length := by omega
  have s3 : (j : Int) < t.rl.length := by omega
  have s4 : (j : Int) < t.s.length := by omega
  clear e0 e2 hb0 hb2 hb4 hld hsl32 h2 h r0 hrl hl hs h64 hsl
  go_enter Tryd.func47, Tryd.ntmps47
  go_upto_region 2 with fail
  refine (show _ = W from hW) ▸ ?_
  clear hW
  go_still_tail 17, (by kernel_rfl)
  refine still_load _ _ _ rfl rfl hrg Tryd.underlying58 rfl hinf rfl ?_
  refine still_build _ rfl rfl hbt rfl ?_
  refine wpStill_nil ?_
  change wpList _ _ _ _ _ W.drew
  have hR6 : Row (W.drew.setRow (w.heap.size + 1) o.cells.toArray) (w.heap.size + 1) 60 o.cells := setRow_heap W.drew _ _ _ _ _ r2
  have hB7 := below_setRow hB.drew (Nat.le_succ w.heap.size) o.cells.toArray
  generalize W.drew.setRow (w.heap.size + 1) o.cells.toArray = W7 at *
  generalize W.drew = W6 at *
  clear hbt hrg hinf hone c0 c2 c4 d0 d2 d3 d4 hst
  go_wp2_with fail
  have hinf : (Tryd.prog.info? 60).map (·.size) = some 36 := by kernel_rfl
  exact bodyPost_ret (v := .agg o.cells.toArray) (results_cell_row (g := w.heap.size + 1) (t := 60) (fr := (0, 0)) rfl _ _ _ _ rfl hR6 Tryd.underlying60 rfl (by rw [hinf]; simp [hlen])) rfl ⟨rfl, hB7⟩
set_option maxRecDepth 100000 in
set_option maxHeartbeats 8000000 in
theorem rhalf1_any (t : Tn) (x : TnA) (j : Nat) (w : World) (h : TnS w w.heap.size x t) (hl : j < t.r.length) (hrl : j < t.rr.length) (hs : j < t.s.length) (h64 : (t.s.getD j default).length = 64) :
    Calls Tryd.prog 47 #[.agg (x.cells t).toArray, .int .i64 j, .int .i64 1] w fun e w' => e = .returned (.agg (ogR t j).cells.toArray) ∧ Below w.heap.size w w' := by
  have hB := (below_alloc' w (.cells (x.cells t).toArray 26)).alloc (by simp) (.cells zOgC.toArray 60)
  have r0 := Row.new w 26 (x.cells t)
  have r1 := r0.alloc (.cells zOgC.toArray 60)
  have r2 := Row.new (w.alloc (.cells (x.cells t).toArray 26)) 60 zOgC
  rw [World.size_alloc] at r2
  have h2 := h.below hB
  obtain ⟨W, hW⟩ : ∃ W : World, (w.alloc (.cells (x.cells t).toArray 26)).alloc (.cells zOgC.toArray 60) = W := ⟨_, rfl⟩
  rw [hW] at hB r1 r2 h2
  unfold TnA.cells at r1 hW ⊢
  have c0 : W.cell? ⟨w.heap.size, 1, none⟩ = some _ := r1.cell 1
  have c2 : W.cell? ⟨w.heap.size, 3, none⟩ = some _ := r1.cell 3
  have c4 : W.cell? ⟨w.heap.size, 4, none⟩ = some _ := r1.cell 4
  obtain ⟨b0, o0, ha0, hb0, e0⟩ := sl_at h2.r hl
  obtain ⟨b2, o2, ha2, hb2, e2⟩ := sl_at h2.rr hrl
  obtain ⟨b4, o4, ha4, hb4, e4⟩ := sl_at h2.s hs
  have hog : ogR t j = ⟨t.r.getD j default, t.rr.getD j default, ((t.s.getD j default).drop 32).take 32⟩ := rfl
  have hld := range_32 32 e4 h64 (by omega)
  rw [ha0] at c0 hW ⊢
  rw [ha2] at c2 hW ⊢
  rw [ha4] at c4 hW ⊢
  rw [hog]
  clear hog ha0 ha2 ha4 e4
  obtain ⟨sl, hsl⟩ : ∃ sl, ((t.s.getD j default).drop 32).take 32 = sl := ⟨_, rfl⟩
  have hsl32 : sl.length = 32 := by rw [← hsl, List.length_take, List.length_drop, h64]; rfl
  rw [hsl] at hld ⊢
  obtain ⟨o, ho⟩ : ∃ o : Og, (⟨t.r.getD j default, t.rr.getD j default, sl⟩ : Og) = o := ⟨_, rfl⟩
  have hlen : o.cells.length = 36 := by rw [← ho]; simp [Og.cells, hsl32]
  have hone : ∀ v ∈ o.cells, v.oneCell' = true := og_one o
  have hst := fun (W' : World) (hR : Row W' (w.heap.size + 1) 60 zOgC) => store_og o.cells (by rw [← ho]; simp [Og.cells, hsl32]) hone hR (by simp [zOgC])
  rw [ho]
  have d0 := e0 0 (by omega)
  have d2 := e2 0 (by omega)
  have d3 := e2 1 (by omega)
  have d4 := e2 2 (by omega)
  replace d0 : W.cell? ⟨b0, o0 + j, none⟩ = some (.int .i64 o.a) := by rw [← ho]; simpa [encI] using d0
  replace d2 : W.cell? ⟨b2, o2 + j * 3, none⟩ = some (.int .i64 o.r.p) := by rw [← ho]; simpa [Tr.cells] using d2
  replace d3 : W.cell? ⟨b2, o2 + j * 3 + 1, none⟩ = some (.int .i64 o.r.q) := by rw [← ho]; simpa [Tr.cells] using d3
  replace d4 : W.cell? ⟨b2, o2 + j * 3 + 2, none⟩ = some (.int .i64 o.r.r) := by rw [← ho]; simpa [Tr.cells] using d4
  have hrg : W.drew.rangeAt b4 (o4 + j * 64 + 32) (o.s.map bv) := by rw [← ho]; exact hld
  have hinf : (Tryd.prog.info? 58).map (·.size) = some (o.s.map bv).length := by rw [← ho, List.length_map, hsl32]; kernel_rfl
  have hbt : Tryd.prog.built 60 [(0, .int .i64 o.a), (1, .agg #[.int .i64 o.r.p, .int .i64 o.r.q, .int .i64 o.r.r]), (2, .agg (o.s.map bv).toArray)] = some o.cells.toArray := built_og o (by rw [← ho]; exact hsl32)
  have hst2 := hst W.drew r2
  have s1 : (0 : Int) ≤ j := by omega
  have s2 : (j : Int) < t.r.length := by omega
  have s3 : (j : Int) < t.rr.length := by omega
  have s4 : (j : Int) < t.s.length := by omega
  clear e0 e2 hb0 hb2 hb4 hld hsl32 h2 h r0 hrl hl hs h64 hsl
  go_enter Tryd.func47, Tryd.ntmps47
  go_upto_region 3 with fail
  refine (show _ = W from hW) ▸ ?_
  clear hW
  go_still_tail 17, (by kernel_rfl)
  refine still_load _ _ _ rfl rfl hrg Tryd.underlying58 rfl hinf rfl ?_
  refine still_build _ rfl rfl hbt rfl ?_
  refine wpStill_nil ?_
  change wpList _ _ _ _ _ W.drew
  have hR6 : Row (W.drew.setRow (w.heap.size + 1) o.cells.toArray) (w.heap.size + 1) 60 o.cells := setRow_heap W.drew _ _ _ _ _ r2
  have hB7 := below_setRow hB.drew (Nat.le_succ w.heap.size) o.cells.toArray
  generalize W.drew.setRow (w.heap.size + 1) o.cells.toArray = W7 at *
  generalize W.drew = W6 at *
  clear hbt hrg hinf hone c0 c2 c4 d0 d2 d3 d4 hst
  go_wp2_with fail
  have hinf : (Tryd.prog.info? 60).map (·.size) = some 36 := by kernel_rfl
  exact bodyPost_ret (v := .agg o.cells.toArray) (results_cell_row (g := w.heap.size + 1) (t := 60) (fr := (0, 0)) rfl _ _ _ _ rfl hR6 Tryd.underlying60 rfl (by rw [hinf]; simp [hlen])) rfl ⟨rfl, hB7⟩
theorem rhalf_any (t : Tn) (x : TnA) (j : Nat) (b : Int) (w : World) (h : TnS w w.heap.size x t) (hb : b = 0 ∨ b = 1) (hl : j < t.l.length) (hr : j < t.r.length) (hrl : j < t.rl.length) (hrr : j < t.rr.length) (hs : j < t.s.length) (h64 : (t.s.getD j default).length = 64) :
    Calls Tryd.prog 47 #[.agg (x.cells t).toArray, .int .i64 j, .int .i64 b] w fun e w' => e = .returned (.agg (ogAt t j b).cells.toArray) ∧ Below w.heap.size w w' := by
  rcases hb with rfl | rfl
  · exact rhalf0_any t x j w h hl hrl hs h64
  · exact rhalf1_any t x j w h hr hrr hs h64
set_option maxRecDepth 100000 in
set_option maxHeartbeats 4000000 in
theorem rright_any (t : Tn) (x : TnA) (n : Nat) (w : World) (h : TnS w w.heap.size x t) :
    Calls Tryd.prog 32 #[.agg (x.cells t).toArray, .int .i64 n] w fun e w' => e = .returned (.bool (rightB t n)) ∧ Below w.heap.size w w' := by
  have hD : rightB t n = ((decide (t.l.length = n) && (decide (t.r.length = n) && (decide (t.rl.length = n) && (decide (t.rr.length = n) && decide (t.s.length = n))))) && (decide (n ≤ 64) && (permB t.l && permB t.r))) := rfl
  have hB := below_alloc' w (.cells (x.cells t).toArray 26)
  have r0 := Row.new w 26 (x.cells t)
  have h2 := h.below hB
  obtain ⟨W, hW⟩ : ∃ W, w.alloc (.cells (x.cells t).toArray 26) = W := ⟨_, rfl⟩
  replace r0 : Row W w.heap.size 26 (x.cells t) := hW ▸ r0
  rw [hW] at hB h2
  obtain ⟨al, cl, ar, cr, arl, crl, arr, crr, at_, ct⟩ := x
  unfold TnA.cells at r0 hW ⊢
  simp only at r0 hW h2 ⊢
  replace hW : w.alloc (.cells #[.slice al t.l.length cl, .slice ar t.r.length cr, .slice arl t.rl.length crl, .slice arr t.rr.length crr, .slice at_ t.s.length ct] 26) = W := hW
  obtain ⟨c0, c1, c2, c3, c4⟩ := st5c r0
  have hz := hB.size
  have P1 := Lib.hid (fun W' (hb : Below W.heap.size W W') => rperm_any t.l _ W' (((h2.l.mono hz).below hb).mono hb.size))
  have P2 := Lib.hid (fun W' (hb : Below W.heap.size W W') => rperm_any t.r _ W' (((h2.r.mono hz).below hb).mono hb.size))
  have hlt := r0.lt
  clear h h2
  have nn : ¬ ((n : Int) < 0) := by omega
  by_cases f0 : n ≤ 64
  rotate_left 1
  · have q := Lib.hid (show rightB t n = false by rw [hD]; simp [f0])
    have z0 : (64 : Int) < n := by omega
    clear f0
    clear hD
    go_enter Tryd.func32, Tryd.ntmps32
    go_upto_region 1 with fail
    try rw [hW]
    clear hW
    go_wp2_with fail
    go_ret
    exact ⟨ret_bool q.out.symm, hB⟩
  by_cases f1 : t.l.length = n
  rotate_left 1
  · have q := Lib.hid (show rightB t n = false by rw [hD]; simp [f1])
    have g1 : (((t.l).length : Int) != n) = true := by simp; omega
    have z0 : ¬ ((64 : Int) < n) := by omega
    clear f0 f1
    clear hD
    go_enter Tryd.func32, Tryd.ntmps32
    go_upto_region 1 with fail
    try rw [hW]
    clear hW
    go_wp2_with fail
    go_ret
    exact ⟨ret_bool q.out.symm, hB⟩
  by_cases f2 : t.r.length = n
  rotate_left 1
  · have q := Lib.hid (show rightB t n = false by rw [hD]; simp [f2])
    have g1 : (((t.l).length : Int) != n) = false := by simp [f1]
    have g2 : (((t.r).length : Int) != n) = true := by simp; omega
    have z0 : ¬ ((64 : Int) < n) := by omega
    clear f0 f1 f2
    clear hD
    go_enter Tryd.func32, Tryd.ntmps32
    go_upto_region 1 with fail
    try rw [hW]
    clear hW
    go_wp2_with fail
    go_ret
    exact ⟨ret_bool q.out.symm, hB⟩
  by_cases f3 : t.rl.length = n
  rotate_left 1
  · have q := Lib.hid (show rightB t n = false by rw [hD]; simp [f3])
    have g1 : (((t.l).length : Int) != n) = false := by simp [f1]
    have g2 : (((t.r).length : Int) != n) = false := by simp [f2]
    have g3 : (((t.rl).length : Int) != n) = true := by simp; omega
    have z0 : ¬ ((64 : Int) < n) := by omega
    clear f0 f1 f2 f3
    clear hD
    go_enter Tryd.func32, Tryd.ntmps32
    go_upto_region 1 with fail
    try rw [hW]
    clear hW
    go_wp2_with fail
    go_ret
    exact ⟨ret_bool q.out.symm, hB⟩
  by_cases f4 : t.rr.length = n
  rotate_left 1
  · have q := Lib.hid (show rightB t n = false by rw [hD]; simp [f4])
    have g1 : (((t.l).length : Int) != n) = false := by simp [f1]
    have g2 : (((t.r).length : Int) != n) = false := by simp [f2]
    have g3 : (((t.rl).length : Int) != n) = false := by simp [f3]
    have g4 : (((t.rr).length : Int) != n) = true := by simp; omega
    have z0 : ¬ ((64 : Int) < n) := by omega
    clear f0 f1 f2 f3 f4
    clear hD
    go_enter Tryd.func32, Tryd.ntmps32
    go_upto_region 1 with fail
    try rw [hW]
    clear hW
    go_wp2_with fail
    go_ret
    exact ⟨ret_bool q.out.symm, hB⟩
  by_cases f5 : t.s.length = n
  rotate_left 1
  · have q := Lib.hid (show rightB t n = false by rw [hD]; simp [f5])
    have g1 : (((t.l).length : Int) != n) = false := by simp [f1]
    have g2 : (((t.r).length : Int) != n) = false := by simp [f2]
    have g3 : (((t.rl).length : Int) != n) = false := by simp [f3]
    have g4 : (((t.rr).length : Int) != n) = false := by simp [f4]
    have g5 : (((t.s).length : Int) != n) = true := by simp; omega
    have z0 : ¬ ((64 : Int) < n) := by omega
    clear f0 f1 f2 f3 f4 f5
    clear hD
    go_enter Tryd.func32, Tryd.ntmps32
    go_upto_region 1 with fail
    try rw [hW]
    clear hW
    go_wp2_with fail
    go_ret
    exact ⟨ret_bool q.out.symm, hB⟩
  have g1 : (((t.l).length : Int) != n) = false := by simp [f1]
  have g2 : (((t.r).length : Int) != n) = false := by simp [f2]
  have g3 : (((t.rl).length : Int) != n) = false := by simp [f3]
  have g4 : (((t.rr).length : Int) != n) = false := by simp [f4]
  have g5 : (((t.s).length : Int) != n) = false := by simp [f5]
  have z0 : ¬ ((64 : Int) < n) := by omega
  have hD2 : rightB t n = (permB t.l && permB t.r) := by rw [hD]; simp [f0, f1, f2, f3, f4, f5]
  clear hD f0 f1 f2 f3 f4 f5
  cases p1 : permB t.l with
  | false =>
    have q := Lib.hid (show rightB t n = false by rw [hD2, p1]; rfl)
    rw [p1] at P1
    clear hD2 p1
    go_enter Tryd.func32, Tryd.ntmps32
    go_upto_region 1 with fail
    try rw [hW]
    clear hW
    go_wp2_with (go_at_call 25; (with_reducible refine (P1.out _ (Below.refl _ _)).mono ?_); rintro e w1 ⟨rfl, hb⟩)
    go_ret
    exact ⟨ret_bool q.out.symm, hB.trans (hb.mono hz)⟩
  | true =>
    rw [p1] at P1
    have q := Lib.hid (show rightB t n = permB t.r by rw [hD2, p1]; rfl)
    clear hD2 p1
    go_enter Tryd.func32, Tryd.ntmps32
    go_upto_region 1 with fail
    try rw [hW]
    clear hW
    go_wp2_with (first
      | (go_at_call 25; (with_reducible refine (P1.out _ (Below.refl _ _)).mono ?_); rintro e w1 ⟨rfl, hb⟩; have m1 : w1.cell? ⟨w.heap.size, 1, none⟩ = _ := (hb.cell (p := ⟨w.heap.size, 1, none⟩) hlt).trans c1)
      | (go_at_call 25; (with_reducible refine (P2.out _ hb).mono ?_); rintro e w2 ⟨rfl, hb2⟩; replace hb := hb.trans (hb2.mono hb.size)))
    go_ret
    exact ⟨ret_bool q.out.symm, hB.trans (hb.mono hz)⟩
end Go.Proofs.YthboebhghaabnaaDoor

/-! What stays in form. -/
namespace Fk
theorem mul_in {a b : Int} (ha : vld a = true) (hb : vld b = true) : a * b % 2147483579 = mulC a b := by
  unfold mulC; rw [ha, hb]; rfl
theorem vld_times {a b : Int} (ha : vld a = true) (hb : vld b = true) : vld (a * b % 2147483579) = true := by
  rw [mul_in ha hb]; exact vld_mul ha hb
theorem okC_more {key : Int} {r : Tr} {i : Nat} {c : Ci} (hk : vld key = true) (h : okC c = true) : okC (moreC key r i c) = true := by
  obtain ⟨ha, hb⟩ := okC_iff.1 h
  exact okC_iff.2 ⟨vld_times ha (vld_powC vld_4 _), vld_times hb (vld_powC hk _)⟩
theorem okC_strip {n : Int} {i : Nat} {c : Ci} (h : okC c = true) : okC (stripC n i c) = true := by
  obtain ⟨ha, hb⟩ := okC_iff.1 h
  exact okC_iff.2 ⟨ha, vld_times hb (vld_powC ha _)⟩
theorem okS_map {f : Nat → Ci → Ci} {s : Se} (hf : ∀ i c, okC c = true → okC (f i c) = true) (h : okS s = true) : okS (s.map f) = true := by
  obtain ⟨h1, h2, h3⟩ := okS_iff.1 h
  exact okS_iff.2 ⟨hf _ _ h1, hf _ _ h2, hf _ _ h3⟩
theorem okS_more {key : Int} {r : Tr} {s : Se} (hk : vld key = true) (h : okS s = true) : okS (s.map (moreC key r)) = true := okS_map (fun _ _ => okC_more hk) h
theorem okS_strip {n : Int} {s : Se} (h : okS s = true) : okS (s.map (stripC n)) = true := okS_map (fun _ _ => okC_strip) h
theorem chS_0 {s : Se} (h : okS s = true) : chS s = 0 := by unfold chS; rw [if_pos h]
theorem chS_1 {s : Se} (h : okS s = false) : chS s = 100 := by unfold chS; rw [h]; rfl
/-- form of the first k -/
def okTo (s : Se) (k : Nat) : Bool := (!decide (0 < k) || okC s.x) && ((!decide (1 < k) || okC s.y) && (!decide (2 < k) || okC s.z))
theorem okTo_3 (s : Se) : okTo s 3 = okS s := by simp [okTo, okS]
theorem okTo_succ (s : Se) {k : Nat} (h : k < 3) : okTo s (k + 1) = (okTo s k && okC (s.get k)) := by
  rcases (show k = 0 ∨ k = 1 ∨ k = 2 by omega) with rfl | rfl | rfl <;> simp [okTo, Se.get, Bool.and_assoc]
theorem el_back {x : Int} (h : vld x = true) : elC (numC x) = x ∧ elE (numC x) = 0 := by
  obtain ⟨h1, h2, h3⟩ := el_num h
  refine ⟨h1, ?_⟩
  unfold elE; rw [if_pos ⟨h2, h3⟩]
/-- a form answer -/
theorem form_bad (key n : Int) {s : Se} (h : okS s = false) : againE key s ≠ 0 ∧ strpE n s ≠ 0 ∧ readC s = default := by
  unfold againE strpE readC
  rw [chS_1 h, h]
  refine ⟨?_, ?_, rfl⟩ <;> split <;> decide
end Fk

set_option linter.unusedSimpArgs false
set_option linter.unusedVariables false
namespace Go.Proofs.YthboebhghaabnaaDoor
open Go.RowKit Go.Shelf Fk

/-- the world's own blocks in Strip, while others come -/
structure Sp (w : World) (n : Int) (s : Se) (W : World) : Prop where
  n : Boxed W w.heap.size 3 (.int .i64 n)
  s : RowS W (w.heap.size + 1) s
  o : RowS W (w.heap.size + 1 + 1) default
  b : Below w.heap.size w W
theorem Sp.below {w W W' : World} {n : Int} {s : Se} (h : Sp w n s W) (hb : Below W.heap.size W W') : Sp w n s W' :=
  ⟨Row.keep (vs := [.int .i64 n]) h.n (hb.block _ (Boxed.lt h.n)), Row.keep h.s (hb.block _ (Row.lt h.s)), Row.keep h.o (hb.block _ (Row.lt h.o)), h.b.trans (hb.mono h.b.size)⟩
theorem Sp.start (n : Int) (s : Se) (w : World) : Sp w n s (((w.alloc (.cells #[.int .i64 n] 3)).alloc (.cells s.cells.toArray 68)).alloc (.cells (default : Se).cells.toArray 68)) :=
  ⟨((Boxed.new w _ _).alloc _).alloc _, (row_at (by simp) _ _).alloc _, row_at (by simp) _ _, (((Below.refl _ w).alloc (Nat.le_refl _) _).alloc (by simp) _).alloc (by simp; omega) _⟩

set_option maxRecDepth 100000 in
set_option maxHeartbeats 2000000 in
theorem strp_no (n : Int) (s : Se) (w : World) (hv : secB n = false) :
    Calls Tryd.prog 38 #[.int .i64 n, s.val] w fun e w' => e = .returned (.tuple #[(default : Se).val, .int .i64 110]) ∧ Below w.heap.size w w' := by
  have hA := Sp.start n s w
  unfold Se.val
  go_enter Tryd.func38, Tryd.ntmps38
  go_wp2_with (go_at_call 62; refine (secret_any _ _).mono ?_; rintro e w1 ⟨rfl, rfl⟩)
  exact bodyPost_ret (v := .tuple #[.agg #[.int .i64 0, .int .i64 0, .int .i64 0, .int .i64 0, .int .i64 0, .int .i64 0], .int .i64 110]) (by simp [results, Tryd.results38, go_sem]) rfl ⟨rfl, hA.b⟩

set_option maxRecDepth 100000 in
set_option maxHeartbeats 2000000 in
theorem strp_bad (n : Int) (s : Se) (w : World) (hv : secB n = true) (hc : okS s = false) :
    Calls Tryd.prog 38 #[.int .i64 n, s.val] w fun e w' => e = .returned (.tuple #[(default : Se).val, .int .i64 100]) ∧ Below w.heap.size w w' := by
  have hch := fun w => echeck_any s w
  have e3 : chS s = 100 := by unfold chS; rw [hc]; rfl
  rw [e3] at hch
  have hA := fun (W : World) (hb : Below (((w.alloc (.cells #[.int .i64 n] 3)).alloc (.cells s.cells.toArray 68)).alloc (.cells (default : Se).cells.toArray 68)).heap.size (((w.alloc (.cells #[.int .i64 n] 3)).alloc (.cells s.cells.toArray 68)).alloc (.cells (default : Se).cells.toArray 68)) W) => (Sp.start n s w).below hb
  unfold Se.val at hch
  obtain ⟨D, hD⟩ : ∃ D : Se, (default : Se) = D := ⟨_, rfl⟩
  have HD := Lib.hid hD
  have HCH := Lib.hid hch
  have HA := Lib.hid hA
  clear e3 hch hA hD
  unfold Se.val
  go_enter Tryd.func38, Tryd.ntmps38
  go_wp2_with (first
    | (go_at_call 62; refine (secret_any _ _).mono ?_; rintro e w1 ⟨rfl, rfl⟩)
    | (go_at_call 67; refine (HCH.out _).mono ?_; rintro e w1 ⟨rfl, hb⟩; replace hb := HA.out _ hb; have ho := hb.o; rw [HD.out] at ho; obtain ⟨q0, q1, q2, q3, q4, q5⟩ := ho.six; obtain ⟨f0, f1, f2, f3, f4, f5⟩ := ho.free))
  have h6 : RowS ((((((w1.setCell ⟨w.heap.size + 1 + 1, 0, none⟩ (.int .i64 D.x.a)).setCell ⟨w.heap.size + 1 + 1, 1, none⟩ (.int .i64 D.x.b)).setCell ⟨w.heap.size + 1 + 1, 2, none⟩ (.int .i64 D.y.a)).setCell ⟨w.heap.size + 1 + 1, 3, none⟩ (.int .i64 D.y.b)).setCell ⟨w.heap.size + 1 + 1, 4, none⟩ (.int .i64 D.z.a)).setCell ⟨w.heap.size + 1 + 1, 5, none⟩ (.int .i64 D.z.b)) (w.heap.size + 1 + 1) D := Row.store (Row.store (Row.store (Row.store (Row.store (Row.store ho 0 _) 1 _) 2 _) 3 _) 4 _) 5 _
  have hB6 : Below w.heap.size w ((((((w1.setCell ⟨w.heap.size + 1 + 1, 0, none⟩ (.int .i64 D.x.a)).setCell ⟨w.heap.size + 1 + 1, 1, none⟩ (.int .i64 D.x.b)).setCell ⟨w.heap.size + 1 + 1, 2, none⟩ (.int .i64 D.y.a)).setCell ⟨w.heap.size + 1 + 1, 3, none⟩ (.int .i64 D.y.b)).setCell ⟨w.heap.size + 1 + 1, 4, none⟩ (.int .i64 D.z.a)).setCell ⟨w.heap.size + 1 + 1, 5, none⟩ (.int .i64 D.z.b)) := (((((hb.b.setCell (by simp only []; omega) _).setCell (by simp only []; omega) _).setCell (by simp only []; omega) _).setCell (by simp only []; omega) _).setCell (by simp only []; omega) _).setCell (by simp only []; omega) _
  generalize ((((((w1.setCell ⟨w.heap.size + 1 + 1, 0, none⟩ (.int .i64 D.x.a)).setCell ⟨w.heap.size + 1 + 1, 1, none⟩ (.int .i64 D.x.b)).setCell ⟨w.heap.size + 1 + 1, 2, none⟩ (.int .i64 D.y.a)).setCell ⟨w.heap.size + 1 + 1, 3, none⟩ (.int .i64 D.y.b)).setCell ⟨w.heap.size + 1 + 1, 4, none⟩ (.int .i64 D.z.a)).setCell ⟨w.heap.size + 1 + 1, 5, none⟩ (.int .i64 D.z.b)) = W6 at *
  obtain ⟨p0, p1, p2, p3, p4, p5⟩ := h6.six
  exact bodyPost_ret (v := .tuple #[.agg #[.int .i64 D.x.a, .int .i64 D.x.b, .int .i64 D.y.a, .int .i64 D.y.b, .int .i64 D.z.a, .int .i64 D.z.b], .int .i64 100]) (by simp [results, Tryd.results38, go_sem, p0, p1, p2, p3, p4, p5]) rfl ⟨by rw [← HD.out], hB6⟩

set_option maxRecDepth 100000 in
set_option maxHeartbeats 2000000 in
theorem strp_ok (n : Int) (s : Se) (w : World) (hv : secB n = true) (hc : okS s = true) :
    Calls Tryd.prog 38 #[.int .i64 n, s.val] w fun e w' => e = .returned (.tuple #[(s.map (stripC n)).val, .int .i64 0]) ∧ Below w.heap.size w w' := by
  have hch := fun w => echeck_any s w
  have e3 : chS s = 0 := by unfold chS; rw [hc]; rfl
  rw [e3] at hch
  have hin := okS_inR hc
  have hn : 1 ≤ n ∧ n < 1073741789 := by simpa [secB] using hv
  have hA := fun (W : World) (hb : Below (((w.alloc (.cells #[.int .i64 n] 3)).alloc (.cells s.cells.toArray 68)).alloc (.cells (default : Se).cells.toArray 68)).heap.size (((w.alloc (.cells #[.int .i64 n] 3)).alloc (.cells s.cells.toArray 68)).alloc (.cells (default : Se).cells.toArray 68)) W) => (Sp.start n s w).below hb
  have hcall := fun (bn ab : Nat) (W : World) => changed_strip s n bn ab W hin hn.1 hn.2
  obtain ⟨t, ht⟩ : ∃ t : Se, s.map (stripC n) = t := ⟨_, rfl⟩
  rw [ht] at hcall ⊢
  unfold Se.val at hch hcall
  have HC := Lib.hid hcall
  have HCH := Lib.hid hch
  have HA := Lib.hid hA
  clear e3 hch hA hcall hin ht hn
  unfold Se.val
  go_enter Tryd.func38, Tryd.ntmps38
  go_wp2_with (first
    | (go_at_call 62; refine (secret_any _ _).mono ?_; rintro e w1 ⟨rfl, rfl⟩)
    | (go_at_call 67; refine (HCH.out _).mono ?_; rintro e w1 ⟨rfl, hb⟩; replace hb := HA.out _ hb; have hs6 := hb.s; obtain ⟨q0, q1, q2, q3, q4, q5⟩ := hs6.six; clear hs6)
    | (go_at_call 65; refine (HC.out _ _ _ (hb.n.alloc _) (Boxed.new _ _ _)).mono ?_; rintro e w3 ⟨rfl, hb4⟩; clear q0 q1 q2 q3 q4 q5; replace hb := (hb.below (below_alloc _ _)).below hb4; clear hb4; have ho := hb.o; obtain ⟨q0, q1, q2, q3, q4, q5⟩ := ho.six; obtain ⟨f0, f1, f2, f3, f4, f5⟩ := ho.free))
  have h6 : RowS ((((((w3.setCell ⟨w.heap.size + 1 + 1, 0, none⟩ (.int .i64 t.x.a)).setCell ⟨w.heap.size + 1 + 1, 1, none⟩ (.int .i64 t.x.b)).setCell ⟨w.heap.size + 1 + 1, 2, none⟩ (.int .i64 t.y.a)).setCell ⟨w.heap.size + 1 + 1, 3, none⟩ (.int .i64 t.y.b)).setCell ⟨w.heap.size + 1 + 1, 4, none⟩ (.int .i64 t.z.a)).setCell ⟨w.heap.size + 1 + 1, 5, none⟩ (.int .i64 t.z.b)) (w.heap.size + 1 + 1) t := Row.store (Row.store (Row.store (Row.store (Row.store (Row.store ho 0 _) 1 _) 2 _) 3 _) 4 _) 5 _
  have hB6 : Below w.heap.size w ((((((w3.setCell ⟨w.heap.size + 1 + 1, 0, none⟩ (.int .i64 t.x.a)).setCell ⟨w.heap.size + 1 + 1, 1, none⟩ (.int .i64 t.x.b)).setCell ⟨w.heap.size + 1 + 1, 2, none⟩ (.int .i64 t.y.a)).setCell ⟨w.heap.size + 1 + 1, 3, none⟩ (.int .i64 t.y.b)).setCell ⟨w.heap.size + 1 + 1, 4, none⟩ (.int .i64 t.z.a)).setCell ⟨w.heap.size + 1 + 1, 5, none⟩ (.int .i64 t.z.b)) := (((((hb.b.setCell (by simp only []; omega) _).setCell (by simp only []; omega) _).setCell (by simp only []; omega) _).setCell (by simp only []; omega) _).setCell (by simp only []; omega) _).setCell (by simp only []; omega) _
  generalize ((((((w3.setCell ⟨w.heap.size + 1 + 1, 0, none⟩ (.int .i64 t.x.a)).setCell ⟨w.heap.size + 1 + 1, 1, none⟩ (.int .i64 t.x.b)).setCell ⟨w.heap.size + 1 + 1, 2, none⟩ (.int .i64 t.y.a)).setCell ⟨w.heap.size + 1 + 1, 3, none⟩ (.int .i64 t.y.b)).setCell ⟨w.heap.size + 1 + 1, 4, none⟩ (.int .i64 t.z.a)).setCell ⟨w.heap.size + 1 + 1, 5, none⟩ (.int .i64 t.z.b)) = W6 at *
  obtain ⟨p0, p1, p2, p3, p4, p5⟩ := h6.six
  exact bodyPost_ret (v := .tuple #[.agg #[.int .i64 t.x.a, .int .i64 t.x.b, .int .i64 t.y.a, .int .i64 t.y.b, .int .i64 t.z.a, .int .i64 t.z.b], .int .i64 0]) (by simp [results, Tryd.results38, go_sem, p0, p1, p2, p3, p4, p5]) rfl ⟨rfl, hB6⟩
theorem strp_any (n : Int) (s : Se) (w : World) :
    Calls Tryd.prog 38 #[.int .i64 n, s.val] w fun e w' => e = .returned (.tuple #[(strpC n s).val, .int .i64 (strpE n s)]) ∧ Below w.heap.size w w' := by
  cases hv : secB n with
  | false =>
    have e1 : strpC n s = default := by unfold strpC; rw [hv]; rfl
    have e2 : strpE n s = 110 := by unfold strpE; rw [hv]; rfl
    rw [e1, e2]; exact strp_no n s w hv
  | true =>
    cases hc : okS s with
    | false =>
      have e1 : strpC n s = default := by unfold strpC; rw [hv, hc]; rfl
      have e2 : strpE n s = 100 := by unfold strpE chS; rw [hv, hc]; rfl
      rw [e1, e2]; exact strp_bad n s w hv hc
    | true =>
      have e1 : strpC n s = s.map (stripC n) := by unfold strpC; rw [hv, hc]; rfl
      have e2 : strpE n s = 0 := by unfold strpE chS; rw [hv, hc]; rfl
      rw [e1, e2]; exact strp_ok n s w hv hc
end Go.Proofs.YthboebhghaabnaaDoor

set_option linter.unusedSimpArgs false
set_option linter.unusedVariables false
namespace Go.Proofs.YthboebhghaabnaaDoor
open Go.RowKit Go.Shelf Fk

set_option maxRecDepth 100000 in
set_option maxHeartbeats 2000000 in
theorem seal_no (key : Int) (t r : Tr) (w : World) (hv : vld key = false) :
    Calls Tryd.prog 37 #[.int .i64 key, t.val, r.val] w fun e w' => e = .returned (.tuple #[(default : Se).val, .int .i64 90]) ∧ Below w.heap.size w w' := by
  have hB : Below w.heap.size w (((w.alloc (.cells t.cells.toArray 79)).alloc (.cells r.cells.toArray 56)).alloc (.cells (default : Se).cells.toArray 68)) := (((Below.refl _ w).alloc (Nat.le_refl _) _).alloc (by simp) _).alloc (by simp; omega) _
  unfold Se.val Tr.val
  go_enter Tryd.func37, Tryd.ntmps37
  go_wp2_with (go_at_call 51; refine (valid_any _ _).mono ?_; rintro e w1 ⟨rfl, rfl⟩)
  exact bodyPost_ret (v := .tuple #[.agg #[.int .i64 0, .int .i64 0, .int .i64 0, .int .i64 0, .int .i64 0, .int .i64 0], .int .i64 90]) (by simp [results, Tryd.results37, go_sem]) rfl ⟨rfl, hB⟩

theorem elE_one {n : Int} (h : elE n ≠ 0) : elE n = 1 := by unfold elE at *; split at h <;> simp_all
theorem idx0 (t : Tr) (w : World) : (Instr.index 79 (.agg #[.int .i64 t.p, .int .i64 t.q, .int .i64 t.r]) (.int .i64 0)).run Tryd.prog w = .ok (.int .i64 t.p) w := by kernel_rfl
theorem idx1 (t : Tr) (w : World) : (Instr.index 79 (.agg #[.int .i64 t.p, .int .i64 t.q, .int .i64 t.r]) (.int .i64 1)).run Tryd.prog w = .ok (.int .i64 t.q) w := by kernel_rfl
theorem idx2 (t : Tr) (w : World) : (Instr.index 79 (.agg #[.int .i64 t.p, .int .i64 t.q, .int .i64 t.r]) (.int .i64 2)).run Tryd.prog w = .ok (.int .i64 t.r) w := by kernel_rfl
set_option maxRecDepth 100000 in
set_option maxHeartbeats 4000000 in
theorem seal_bad (key : Int) (t r : Tr) (w : World) (hv : vld key = true) (hw : wOK t = false) :
    Calls Tryd.prog 37 #[.int .i64 key, t.val, r.val] w fun e w' => e = .returned (.tuple #[(default : Se).val, .int .i64 100]) ∧ Below w.heap.size w w' := by
  have hB := fun (X : Obj) => (((Below.refl w.heap.size w).alloc (Nat.le_refl _) (.cells t.cells.toArray 79)).alloc (by simp) (.cells r.cells.toArray 56)).alloc (by simp; omega) X
  have HB := Lib.hid hB
  clear hB
  have hE := fun (n : Int) (w : World) => element_any n w
  have i0 := idx0 t
  have i1 := idx1 t
  have i2 := idx2 t
  unfold Se.val Tr.val
  by_cases h1 : elE t.p = 0
  · by_cases h2 : elE t.q = 0
    · have h3 : elE t.r ≠ 0 := fun h3 => by simp [wOK, h1, h2, h3] at hw
      have e1 := hE t.p
      have e2 := hE t.q
      have e3 := hE t.r
      rw [h1] at e1
      rw [h2] at e2
      rw [elE_one h3] at e3
      generalize elC t.p = x1 at e1
      generalize elC t.q = x2 at e2
      generalize elC t.r = x3 at e3
      have E1 := Lib.hid e1
      have E2 := Lib.hid e2
      have E3 := Lib.hid e3
      clear hE e1 e2 e3 h1 h2 h3 hw
      go_enter Tryd.func37, Tryd.ntmps37
      go_wp2_with (go_at_call 51; refine (valid_any _ _).mono ?_; rintro e w1 ⟨rfl, rfl⟩)
      refine wp_loop_rounds 3 ?_
      rw [rounds_succ]
      go_wp2_with (go_at_call 64; refine (E1.out _).mono ?_; rintro e w1 ⟨rfl, rfl⟩)
      rw [rounds_succ]
      go_wp2_with (go_at_call 64; refine (E2.out _).mono ?_; rintro e w1 ⟨rfl, rfl⟩)
      rw [rounds_succ]
      go_wp2_with (go_at_call 64; refine (E3.out _).mono ?_; rintro e w1 ⟨rfl, rfl⟩)
      exact bodyPost_ret (v := .tuple #[.agg #[.int .i64 0, .int .i64 0, .int .i64 0, .int .i64 0, .int .i64 0, .int .i64 0], .int .i64 100]) (by simp [results, Tryd.results37, go_sem]) rfl ⟨rfl, HB.out _⟩
    · have e1 := hE t.p
      have e2 := hE t.q
      rw [h1] at e1
      rw [elE_one h2] at e2
      generalize elC t.p = x1 at e1
      generalize elC t.q = x2 at e2
      have E1 := Lib.hid e1
      have E2 := Lib.hid e2
      clear hE e1 e2 h1 h2 hw
      go_enter Tryd.func37, Tryd.ntmps37
      go_wp2_with (go_at_call 51; refine (valid_any _ _).mono ?_; rintro e w1 ⟨rfl, rfl⟩)
      refine wp_loop_rounds 2 ?_
      rw [rounds_succ]
      go_wp2_with (go_at_call 64; refine (E1.out _).mono ?_; rintro e w1 ⟨rfl, rfl⟩)
      rw [rounds_succ]
      go_wp2_with (go_at_call 64; refine (E2.out _).mono ?_; rintro e w1 ⟨rfl, rfl⟩)
      exact bodyPost_ret (v := .tuple #[.agg #[.int .i64 0, .int .i64 0, .int .i64 0, .int .i64 0, .int .i64 0, .int .i64 0], .int .i64 100]) (by simp [results, Tryd.results37, go_sem]) rfl ⟨rfl, HB.out _⟩
  · have e1 := hE t.p
    rw [elE_one h1] at e1
    generalize elC t.p = x1 at e1
    have E1 := Lib.hid e1
    clear hE e1 h1 hw
    go_enter Tryd.func37, Tryd.ntmps37
    go_wp2_with (go_at_call 51; refine (valid_any _ _).mono ?_; rintro e w1 ⟨rfl, rfl⟩)
    refine wp_loop_rounds 1 ?_
    rw [rounds_succ]
    go_wp2_with (go_at_call 64; refine (E1.out _).mono ?_; rintro e w1 ⟨rfl, rfl⟩)
    exact bodyPost_ret (v := .tuple #[.agg #[.int .i64 0, .int .i64 0, .int .i64 0, .int .i64 0, .int .i64 0, .int .i64 0], .int .i64 100]) (by simp [results, Tryd.results37, go_sem]) rfl ⟨rfl, HB.out _⟩

/-- the world's own blocks in Seal, while others come -/
structure Sa (w : World) (r : Tr) (s : Se) (W : World) : Prop where
  r : Row W (w.heap.size + 1) 56 r.cells
  o : RowS W (w.heap.size + 1 + 1) s
  b : Below w.heap.size w W
theorem Sa.below {w W W' : World} {r : Tr} {s : Se} (h : Sa w r s W) (hb : Below W.heap.size W W') : Sa w r s W' :=
  ⟨Row.keep h.r (hb.block _ (Row.lt h.r)), Row.keep h.o (hb.block _ (Row.lt h.o)), h.b.trans (hb.mono h.b.size)⟩
theorem Sa.start (t r : Tr) (s : Se) (w : World) : Sa w r s (((w.alloc (.cells t.cells.toArray 79)).alloc (.cells r.cells.toArray 56)).alloc (.cells s.cells.toArray 68)) :=
  ⟨(row_at (by simp) _ _).alloc _, row_at (by simp) _ _, (((Below.refl _ w).alloc (Nat.le_refl _) _).alloc (by simp) _).alloc (by simp; omega) _⟩
theorem elC_bd {n : Int} (h : elE n = 0) : vld (elC n) = true := by
  have : 1 ≤ n ∧ n ≤ 1073741789 := elE_iff.1 (by rw [h]; rfl)
  exact vld_el this.1 this.2
theorem seal0_ok {t : Tr} (h : wOK t = true) : okS (seal0 t) = true := by
  simp only [wOK, Bool.and_eq_true, beq_iff_eq] at h
  obtain ⟨h1, h2, h3⟩ := h
  refine okS_iff.2 ⟨okC_iff.2 ⟨vld_1, elC_bd h1⟩, okC_iff.2 ⟨vld_1, elC_bd h2⟩, okC_iff.2 ⟨vld_1, elC_bd h3⟩⟩

set_option maxRecDepth 100000 in
set_option maxHeartbeats 4000000 in
theorem seal_ok (key : Int) (t r : Tr) (w : World) (hv : vld key = true) (hw : wOK t = true) :
    Calls Tryd.prog 37 #[.int .i64 key, t.val, r.val] w fun e w' => e = .returned (.tuple #[((seal0 t).map (moreC key r)).val, .int .i64 0]) ∧ Below w.heap.size w w' := by
  have hin := okS_inR (seal0_ok hw)
  have hcall := fun (br bk ab : Nat) (W : World) => changed_more (seal0 t) key r br bk ab W hin
  have hA := Sa.start t r (seal0 t) w
  have hE := fun (n : Int) (w : World) => element_any n w
  have i0 := idx0 t
  have i1 := idx1 t
  have i2 := idx2 t
  simp only [wOK, Bool.and_eq_true, beq_iff_eq] at hw
  obtain ⟨h1, h2, h3⟩ := hw
  have e1 := hE t.p
  have e2 := hE t.q
  have e3 := hE t.r
  rw [h1] at e1
  rw [h2] at e2
  rw [h3] at e3
  obtain ⟨S, hS⟩ : ∃ S : Se, (seal0 t).map (moreC key r) = S := ⟨_, rfl⟩
  rw [hS] at hcall ⊢
  unfold Se.val seal0 at hcall
  unfold seal0 at hA
  generalize elC t.p = x1 at e1 hcall hA
  generalize elC t.q = x2 at e2 hcall hA
  generalize elC t.r = x3 at e3 hcall hA
  have E1 := Lib.hid e1
  have E2 := Lib.hid e2
  have E3 := Lib.hid e3
  have HC := Lib.hid hcall
  have HA := Lib.hid hA
  clear hE e1 e2 e3 h1 h2 h3 hcall hA hin hS
  unfold Se.val Tr.val
  go_enter Tryd.func37, Tryd.ntmps37
  go_wp2_with (go_at_call 51; refine (valid_any _ _).mono ?_; rintro e w1 ⟨rfl, rfl⟩)
  refine wp_loop_rounds 4 ?_
  rw [rounds_succ]
  go_wp2_with (go_at_call 64; refine (E1.out _).mono ?_; rintro e w1 ⟨rfl, rfl⟩)
  rw [rounds_succ]
  go_wp2_with (go_at_call 64; refine (E2.out _).mono ?_; rintro e w1 ⟨rfl, rfl⟩)
  rw [rounds_succ]
  go_wp2_with (go_at_call 64; refine (E3.out _).mono ?_; rintro e w1 ⟨rfl, rfl⟩)
  rw [rounds_succ]
  go_wp2_with fail
  have hb := HA.out
  obtain ⟨W1, hW1⟩ : ∃ W1 : World, (((w.alloc (.cells #[.int .i64 t.p, .int .i64 t.q, .int .i64 t.r] 79)).alloc (.cells #[.int .i64 r.p, .int .i64 r.q, .int .i64 r.r] 56)).alloc (.cells #[.int .i64 1, .int .i64 x1, .int .i64 1, .int .i64 x2, .int .i64 1, .int .i64 x3] 68)) = W1 := ⟨_, rfl⟩
  rw [hW1]
  replace hb : Sa w r ⟨⟨1, x1⟩, ⟨1, x2⟩, ⟨1, x3⟩⟩ W1 := by rw [← hW1]; exact hb
  clear hW1 HA
  refine wp_region_ord 6 [(1, 0), (1, 1), (1, 2), (2, 3), (2, 4), (2, 5)] (Sa w r ⟨⟨1, x1⟩, ⟨1, x2⟩, ⟨1, x3⟩⟩) (by kernel_rfl) (by kernel_rfl) (fun _ _ d _ _ h => by cases d <;> exact h) (hb.below (Below.refl _ _).drew) ?_
  replace hb := hb.below (Below.refl _ _).drew
  iterate 3
    refine wpOrd_take (v := ?_) rfl (by rfl) (fun w hSw => ?_) ?_
    rotate_left 1
    · obtain ⟨q0, q1, q2, q3, q4, q5⟩ := hSw.o.six
      obtain ⟨r0, r1, r2⟩ := RowT.three hSw.r
      clear hSw
      go_simp
      with_reducible rfl
    simp only [Act.put, List.setIfInBounds_toArray, List.set_cons_zero, List.set_cons_succ]
  refine wpOrd_step rfl (fun K hK => ⟨by rfl, ?_⟩)
  go_simp
  go_at_call 66
  refine (more_any key r _).mono ?_
  rintro e w2 ⟨rfl, hw⟩
  have hb2 : Below W1.drew.heap.size W1.drew w2 := by rw [← hw]; exact ((Below.refl _ _).alloc (Nat.le_refl _) _).alloc (by simp) _
  have hk2 : Boxed w2 W1.drew.heap.size 3 (.int .i64 key) := by rw [← hw]; exact (Boxed.new _ _ _).alloc _
  have hr2 : Row w2 (W1.drew.heap.size + 1) 56 r.cells := by rw [← hw]; exact row_at (by simp) _ _
  clear hw
  replace hb := hb.below hb2
  refine hK _ _ hb ?_
  clear hK K hb2
  refine wpOrd_step rfl (fun K hK => ⟨by rfl, ?_⟩)
  go_simp
  have hb3 := hb.below (below_alloc w2 (Obj.cells #[.func (.func 94) #[] #[.pointer (some ⟨W1.drew.heap.size + 1, 0, none⟩), .pointer (some ⟨W1.drew.heap.size, 0, none⟩)]] 121))
  refine hK _ _ hb3 ?_
  clear hK K
  refine wpOrd_step rfl (fun K hK => ⟨by rfl, ?_⟩)
  go_simp
  go_at_call 65
  refine (HC.out _ _ _ _ (hr2.alloc _) (hk2.alloc _) (Boxed.new _ _ _)).mono ?_
  rintro e w3 ⟨rfl, hb4⟩
  replace hb := hb3.below hb4
  refine hK _ _ hb ?_
  clear hK K hb3 hb4 hr2 hk2
  refine wpOrd_nil ?_
  simp only [List.drop_succ_cons, List.drop_zero]
  have ho := hb.o
  obtain ⟨f0, f1, f2, f3, f4, f5⟩ := ho.free
  obtain ⟨q0, q1, q2, q3, q4, q5⟩ := ho.six
  go_wp2_with fail
  have h6 : RowS ((((((w3.setCell ⟨w.heap.size + 1 + 1, 0, none⟩ (.int .i64 S.x.a)).setCell ⟨w.heap.size + 1 + 1, 1, none⟩ (.int .i64 S.x.b)).setCell ⟨w.heap.size + 1 + 1, 2, none⟩ (.int .i64 S.y.a)).setCell ⟨w.heap.size + 1 + 1, 3, none⟩ (.int .i64 S.y.b)).setCell ⟨w.heap.size + 1 + 1, 4, none⟩ (.int .i64 S.z.a)).setCell ⟨w.heap.size + 1 + 1, 5, none⟩ (.int .i64 S.z.b)) (w.heap.size + 1 + 1) S := Row.store (Row.store (Row.store (Row.store (Row.store (Row.store ho 0 _) 1 _) 2 _) 3 _) 4 _) 5 _
  have hB6 : Below w.heap.size w ((((((w3.setCell ⟨w.heap.size + 1 + 1, 0, none⟩ (.int .i64 S.x.a)).setCell ⟨w.heap.size + 1 + 1, 1, none⟩ (.int .i64 S.x.b)).setCell ⟨w.heap.size + 1 + 1, 2, none⟩ (.int .i64 S.y.a)).setCell ⟨w.heap.size + 1 + 1, 3, none⟩ (.int .i64 S.y.b)).setCell ⟨w.heap.size + 1 + 1, 4, none⟩ (.int .i64 S.z.a)).setCell ⟨w.heap.size + 1 + 1, 5, none⟩ (.int .i64 S.z.b)) := (((((hb.b.setCell (by simp only []; omega) _).setCell (by simp only []; omega) _).setCell (by simp only []; omega) _).setCell (by simp only []; omega) _).setCell (by simp only []; omega) _).setCell (by simp only []; omega) _
  generalize ((((((w3.setCell ⟨w.heap.size + 1 + 1, 0, none⟩ (.int .i64 S.x.a)).setCell ⟨w.heap.size + 1 + 1, 1, none⟩ (.int .i64 S.x.b)).setCell ⟨w.heap.size + 1 + 1, 2, none⟩ (.int .i64 S.y.a)).setCell ⟨w.heap.size + 1 + 1, 3, none⟩ (.int .i64 S.y.b)).setCell ⟨w.heap.size + 1 + 1, 4, none⟩ (.int .i64 S.z.a)).setCell ⟨w.heap.size + 1 + 1, 5, none⟩ (.int .i64 S.z.b)) = W6 at *
  obtain ⟨p0, p1, p2, p3, p4, p5⟩ := h6.six
  exact bodyPost_ret (v := .tuple #[.agg #[.int .i64 S.x.a, .int .i64 S.x.b, .int .i64 S.y.a, .int .i64 S.y.b, .int .i64 S.z.a, .int .i64 S.z.b], .int .i64 0]) (by simp [results, Tryd.results37, go_sem, p0, p1, p2, p3, p4, p5]) rfl ⟨rfl, hB6⟩
theorem seal_any (key : Int) (t r : Tr) (w : World) :
    Calls Tryd.prog 37 #[.int .i64 key, t.val, r.val] w fun e w' => e = .returned (.tuple #[(sealC key t r).val, .int .i64 (sealE key t)]) ∧ Below w.heap.size w w' := by
  cases hv : vld key with
  | false =>
    have e1 : sealC key t r = default := by unfold sealC; rw [hv]; rfl
    have e2 : sealE key t = 90 := by unfold sealE; rw [hv]; rfl
    rw [e1, e2]; exact seal_no key t r w hv
  | true =>
    cases hw : wOK t with
    | false =>
      have e1 : sealC key t r = default := by unfold sealC; rw [hv, hw]; rfl
      have e2 : sealE key t = 100 := by unfold sealE; rw [hv, hw]; rfl
      rw [e1, e2]; exact seal_bad key t r w hv hw
    | true =>
      have e1 : sealC key t r = (seal0 t).map (moreC key r) := by unfold sealC; rw [hv, hw]; rfl
      have e2 : sealE key t = 0 := by unfold sealE; rw [hv, hw]; rfl
      rw [e1, e2]; exact seal_ok key t r w hv hw
end Go.Proofs.YthboebhghaabnaaDoor

set_option linter.unusedSimpArgs false
set_option linter.unusedVariables false
namespace Go.Proofs.YthboebhghaabnaaDoor
open Go.RowKit Go.Shelf Fk
attribute [local go_sem] Oper.semAt_some wide_fn'
def readTo (s : Se) (k : Nat) : Tr := ⟨if 0 < k then numC s.x.b else 0, if 1 < k then numC s.y.b else 0, if 2 < k then numC s.z.b else 0⟩
theorem readTo_set (s : Se) {k : Nat} (h : k < 3) : (readTo s k).cells.set k (.int .i64 (numC (s.get k).b)) = (readTo s (k + 1)).cells := by
  rcases (show k = 0 ∨ k = 1 ∨ k = 2 by omega) with rfl | rfl | rfl <;> rfl

set_option maxRecDepth 100000 in
set_option maxHeartbeats 2000000 in
theorem read_bad (s : Se) (w : World) (hc : okS s = false) :
    Calls Tryd.prog 39 #[s.val] w fun e w' => e = .returned (.tuple #[(default : Tr).val, .int .i64 100]) ∧ Below w.heap.size w w' := by
  have hch := fun w => echeck_any s w
  have e3 : chS s = 100 := by unfold chS; rw [hc]; rfl
  rw [e3] at hch
  have hA : ∀ W, Below ((w.alloc (.cells s.cells.toArray 68)).alloc (.cells (default : Tr).cells.toArray 79)).heap.size ((w.alloc (.cells s.cells.toArray 68)).alloc (.cells (default : Tr).cells.toArray 79)) W →
      Row W (w.heap.size + 1) 79 (default : Tr).cells ∧ Below w.heap.size w W := fun W hb =>
    ⟨Row.keep (row_at (w := w.alloc (.cells s.cells.toArray 68)) (by simp) 79 (default : Tr).cells) (hb.block _ (by simp)), (((Below.refl _ w).alloc (Nat.le_refl _) _).alloc (by simp) _).trans (hb.mono (by simp; omega))⟩
  unfold Se.val at hch
  have HCH := Lib.hid hch
  have HA := Lib.hid hA
  clear e3 hch hA
  unfold Se.val
  go_enter Tryd.func39, Tryd.ntmps39
  go_wp2_with (go_at_call 67; refine (HCH.out _).mono ?_; rintro e w1 ⟨rfl, hb⟩; obtain ⟨ho, hb⟩ := HA.out _ hb; have ho2 : Row w1 (w.heap.size + 1) 79 [.int .i64 0, .int .i64 0, .int .i64 0] := ho; have q0 := Row.cell ho2 0; have q1 := Row.cell ho2 1; have q2 := Row.cell ho2 2; simp only [List.getElem?_cons_zero, List.getElem?_cons_succ] at q0 q1 q2; obtain ⟨f0, f1, f2⟩ := RowT.free ho)
  have h6 : Row (((w1.setCell ⟨w.heap.size + 1, 0, none⟩ (.int .i64 0)).setCell ⟨w.heap.size + 1, 1, none⟩ (.int .i64 0)).setCell ⟨w.heap.size + 1, 2, none⟩ (.int .i64 0)) (w.heap.size + 1) 79 [.int .i64 0, .int .i64 0, .int .i64 0] := Row.store (Row.store (Row.store ho2 0 _) 1 _) 2 _
  have hB6 : Below w.heap.size w (((w1.setCell ⟨w.heap.size + 1, 0, none⟩ (.int .i64 0)).setCell ⟨w.heap.size + 1, 1, none⟩ (.int .i64 0)).setCell ⟨w.heap.size + 1, 2, none⟩ (.int .i64 0)) := ((hb.setCell (by simp only []; omega) _).setCell (by simp only []; omega) _).setCell (by simp only []; omega) _
  generalize (((w1.setCell ⟨w.heap.size + 1, 0, none⟩ (.int .i64 0)).setCell ⟨w.heap.size + 1, 1, none⟩ (.int .i64 0)).setCell ⟨w.heap.size + 1, 2, none⟩ (.int .i64 0)) = W6 at *
  have p0 := Row.cell h6 0
  have p1 := Row.cell h6 1
  have p2 := Row.cell h6 2
  simp only [List.getElem?_cons_zero, List.getElem?_cons_succ] at p0 p1 p2
  exact bodyPost_ret (v := .tuple #[.agg #[.int .i64 0, .int .i64 0, .int .i64 0], .int .i64 100]) (by simp [results, Tryd.results39, go_sem, p0, p1, p2]) rfl ⟨rfl, hB6⟩

set_option maxRecDepth 100000 in
set_option maxHeartbeats 2000000 in
theorem read_ok (s : Se) (w : World) (hc : okS s = true) :
    Calls Tryd.prog 39 #[s.val] w fun e w' => e = .returned (.tuple #[(readTo s 3).val, .int .i64 0]) ∧ Below w.heap.size w w' := by
  have hch := fun w => echeck_any s w
  have e3 : chS s = 0 := by unfold chS; rw [hc]; rfl
  rw [e3] at hch
  have hA : ∀ W, Below ((w.alloc (.cells s.cells.toArray 68)).alloc (.cells (default : Tr).cells.toArray 79)).heap.size ((w.alloc (.cells s.cells.toArray 68)).alloc (.cells (default : Tr).cells.toArray 79)) W →
      RowS W w.heap.size s ∧ Row W (w.heap.size + 1) 79 (default : Tr).cells ∧ Below w.heap.size w W ∧ w.heap.size + 2 ≤ W.heap.size := fun W hb =>
    ⟨Row.keep ((Row.new w 68 s.cells).alloc _) (hb.block _ (by simp; omega)), Row.keep (row_at (w := w.alloc (.cells s.cells.toArray 68)) (by simp) 79 (default : Tr).cells) (hb.block _ (by simp)),
      (((Below.refl _ w).alloc (Nat.le_refl _) _).alloc (by simp) _).trans (hb.mono (by simp; omega)), by have := hb.size; simp at this; omega⟩
  unfold Se.val at hch
  have HCH := Lib.hid hch
  have HA := Lib.hid hA
  clear e3 hch hA
  refine (callsIn_wide (n := 3)).1 ?_
  refine callsIn_of_wp_marks Tryd.func39 rfl trivial ?_ rfl
  simp only [Tryd.ntmps39, List.size_toArray, List.length_cons, List.length_nil, Nat.reduceAdd, Nat.reduceSub, Array.replicate_succ, Array.replicate_zero, List.push_toArray, List.append_toArray, List.nil_append, List.cons_append]
  unfold Se.val
  gi_wp2_with (first
    | (gi_at_call 67; refine (callsIn_wide.2 (HCH.out _)).mono ?_; rintro e w1 ⟨rfl, hb⟩; obtain ⟨hs, ho, hb, hz1⟩ := HA.out _ hb)
    | (gi_at_call 71; refine (callsIn_wide.2 (ciphers_any _ _)).mono ?_; rintro e w' ⟨rfl, rfl⟩))
  obtain ⟨W0, hW0⟩ : ∃ W0 : World, w1.alloc (Obj.cells #[Value.pointer (some { block := w.heap.size, off := 0 })] 128) = W0 := ⟨_, rfl⟩
  have hz : W0.heap.size = w1.heap.size + 1 := by rw [← hW0]; simp
  have hR : RowS W0 w.heap.size s := by rw [← hW0]; exact Row.alloc hs _
  have hO : Row W0 (w.heap.size + 1) 79 (readTo s 0).cells := by rw [← hW0]; exact Row.alloc ho _
  have hP : Boxed W0 w1.heap.size 128 (.pointer (some ⟨w.heap.size, 0, none⟩)) := by rw [← hW0]; exact Boxed.new _ _ _
  have hBW : Below w.heap.size w W0 := by rw [← hW0]; exact hb.alloc hb.size _
  rw [hW0]
  clear hW0
  refine wpIn_rangeL (w := W0) rfl (by omega) (gf := 95) (lb := #[.pointer (some ⟨w1.heap.size, 0, none⟩)]) rfl trivial (enters_of Tryd.func95 (by kernel_rfl) rfl)
    (ciphers_seq w.heap.size w1.heap.size _ 2 (by omega))
    (fun W hW => (hW.block _ (by omega)).trans hP) (by omega) (fun h => h) (fun h => h)
    (fun v hv => by obtain ⟨p, _, rfl⟩ := List.mem_map.1 hv; rfl)
    (fun k W => RowS W w.heap.size s ∧ Row W (w.heap.size + 1) 79 (readTo s k).cells ∧ Below w.heap.size w W)
    (fun _ _ _ => False)
    (fun k W W' row ⟨h1, h2, h4⟩ hg hr => ⟨h1.kept hg (fun e => by have := (hr _ e.symm).resolve_left (fun h => h); omega), Row.keep h2 (hg.block _ (Row.lt h2) (fun e => by have := (hr _ e.symm).resolve_left (fun h => h); omega)), h4.grown hg h4.size (fun r e => by have := (hr _ e).resolve_left (fun h => h); omega)⟩)
    (fun _ _ _ _ _ hs _ _ => hs.elim)
    ⟨hR, hO, hBW⟩
    (fun k a' _ => k < 3 ∧ a' = { tmps := #[Value.agg #[Value.int IntKind.i64 s.x.a, Value.int IntKind.i64 s.x.b, Value.int IntKind.i64 s.y.a, Value.int IntKind.i64 s.y.b, Value.int IntKind.i64 s.z.a, Value.int IntKind.i64 s.z.b],
            Value.pointer (some { block := w.heap.size, off := 0 }), Value.pointer (some { block := w.heap.size + 1, off := 0 }), Value.int IntKind.i64 0, Value.int IntKind.i64 0,
            .int .i64 (k : Int), .pointer (some ⟨w.heap.size, k * 2, none⟩), Value.agg #[Value.int IntKind.i64 s.x.a, Value.int IntKind.i64 s.x.b, Value.int IntKind.i64 s.y.a, Value.int IntKind.i64 s.y.b, Value.int IntKind.i64 s.z.a, Value.int IntKind.i64 s.z.b],
            Value.int IntKind.i64 0, Value.int IntKind.i64 0, Value.bool false, undef, undef,
            Value.func (Fn.func 95) #[] #[Value.pointer (some { block := w1.heap.size, off := 0 })], .int .i64 (k : Int), .pointer (some ⟨w.heap.size, k * 2, none⟩),
            undef, undef, undef, undef, undef, undef, undef, undef, undef, undef, undef], defers := [] })
    (fun _ _ _ _ _ _ hs _ _ => hs) ?assign ?body ?done ?stop
  case assign =>
    intro l k v W K hI hv hsz hK
    obtain ⟨hk, rfl⟩ := ciVals_some hv
    clear hv
    unfold ciV
    gi_wp2
    exact hK _ _ (Kept.refl _ _) (SameOn.refl _ _) hI ⟨hk, rfl⟩
  case body =>
    rintro l k v a' W ⟨h1, h2, h4⟩ ⟨hk, rfl⟩ hv hsz
    have c2 := h1.cb hk
    have f1 := Row.frozen h2 k
    have hst := readTo_set s hk
    have hn := fun w => number_any (s.get k).b w
    obtain ⟨x, hx⟩ : ∃ x, numC (s.get k).b = x := ⟨_, rfl⟩
    rw [hx] at hst hn
    generalize numE (s.get k).b = y at hn
    have hbx : ∃ v, W.cell? ⟨w.heap.size + 1, k, none⟩ = some v := by
      rw [Row.cell h2]
      rcases (show k = 0 ∨ k = 1 ∨ k = 2 by omega) with rfl | rfl | rfl <;> exact ⟨_, rfl⟩
    obtain ⟨v0, c3⟩ := hbx
    generalize (s.get k).b = bb at c2 hn
    have HST := Lib.hid hst
    have HN := Lib.hid hn
    have s5 : (0 : Int) ≤ k := by omega
    have s6 : (k : Int) < 3 := by omega
    clear hv hst hn hx
    gi_wp2_with (gi_at_call 72; refine (callsIn_wide.2 (HN.out _)).mono ?_; rintro e w' ⟨rfl, rfl⟩)
    refine ⟨Kept.setCell _ _ (by simp only []; omega) (by simp only []; omega), ?_, Row.other h1 (p := ⟨w.heap.size + 1, k, none⟩) (by simp only []; omega) _, ?_, h4.setCell (p := ⟨w.heap.size + 1, k, none⟩) (by simp only []; omega) _⟩
    · intro r hr
      have : r = w1.heap.size := hr
      exact Below.heap_setCell _ _ _ r (by simp only []; omega)
    · have := Row.store h2 k (.int .i64 x)
      rw [HST.out] at this
      exact this
  case done =>
    rintro W ⟨h1, h2, h4⟩ hsz hD
    rw [ciVals_length] at h2
    obtain ⟨t, ht⟩ : ∃ t, readTo s 3 = t := ⟨_, rfl⟩
    rw [ht] at h2
    have HT := Lib.hid ht
    clear ht
    obtain ⟨c0, c1, c2⟩ := RowT.three h2
    obtain ⟨f0, f1, f2⟩ := RowT.free h2
    gi_wp2
    have h6 : Row (((W.setCell ⟨w.heap.size + 1, 0, none⟩ (.int .i64 t.p)).setCell ⟨w.heap.size + 1, 1, none⟩ (.int .i64 t.q)).setCell ⟨w.heap.size + 1, 2, none⟩ (.int .i64 t.r)) (w.heap.size + 1) 79 t.cells := Row.store (Row.store (Row.store h2 0 _) 1 _) 2 _
    have hB6 : Below w.heap.size w (((W.setCell ⟨w.heap.size + 1, 0, none⟩ (.int .i64 t.p)).setCell ⟨w.heap.size + 1, 1, none⟩ (.int .i64 t.q)).setCell ⟨w.heap.size + 1, 2, none⟩ (.int .i64 t.r)) := ((h4.setCell (by simp only []; omega) _).setCell (by simp only []; omega) _).setCell (by simp only []; omega) _
    have hD6 : (((W.setCell ⟨w.heap.size + 1, 0, none⟩ (.int .i64 t.p)).setCell ⟨w.heap.size + 1, 1, none⟩ (.int .i64 t.q)).setCell ⟨w.heap.size + 1, 2, none⟩ (.int .i64 t.r)).heap[W0.heap.size]? = some (.deferred (some [])) := by
      refine (Below.heap_setCell _ _ _ _ ?_).trans ((Below.heap_setCell _ _ _ _ ?_).trans ((Below.heap_setCell _ _ _ _ ?_).trans hD)) <;> (simp only []; omega)
    generalize (((W.setCell ⟨w.heap.size + 1, 0, none⟩ (.int .i64 t.p)).setCell ⟨w.heap.size + 1, 1, none⟩ (.int .i64 t.q)).setCell ⟨w.heap.size + 1, 2, none⟩ (.int .i64 t.r)) = W6 at *
    refine ⟨by simp, .inl ⟨_, _, rfl, run_takeDeferred hD6, ?_⟩⟩
    have h7 := Row.keep h6 ((grownBy_putObj' W6 W0.heap.size (.deferred none)).block _ (Row.lt h6) (by simp; omega))
    obtain ⟨d0, d1, d2⟩ := RowT.three h7
    refine ⟨.tuple #[t.val, .int .i64 0], ?_, by rw [HT.out], ?_⟩
    · simp [results, Tryd.f39, go_sem, d0, d1, d2, Tr.val]
    · exact hB6.grown (grownBy_putObj' _ W0.heap.size (.deferred none)) hB6.size (fun r e => by cases e; omega)
  case stop =>
    rintro c k W _ h _ _
    exact h.elim
theorem read_any (s : Se) (w : World) :
    Calls Tryd.prog 39 #[s.val] w fun e w' => e = .returned (.tuple #[(readC s).val, .int .i64 (chS s)]) ∧ Below w.heap.size w w' := by
  cases hc : okS s with
  | false =>
    have e1 : readC s = default := by unfold readC; rw [hc]; rfl
    have e2 : chS s = 100 := by unfold chS; rw [hc]; rfl
    rw [e1, e2]; exact read_bad s w hc
  | true =>
    have e1 : readC s = readTo s 3 := by unfold readC; rw [hc]; rfl
    have e2 : chS s = 0 := by unfold chS; rw [hc]; rfl
    rw [e1, e2]; exact read_ok s w hc
end Go.Proofs.YthboebhghaabnaaDoor

set_option linter.unusedSimpArgs false
set_option linter.unusedVariables false
namespace Go.Proofs.YthboebhghaabnaaDoor
open Go.RowKit Fk Sha
/-! What an honest turn does, in plain words. -/
theorem again_ok' {key : Int} (hk : vld key = true) {s : Se} (hs : okS s = true) (a : Tr) : againC key s a = s.map (moreC key a) ∧ okS (againC key s a) = true := by
  unfold againC; rw [hk, hs]; exact ⟨rfl, okS_more hk hs⟩
section
variable {key : Int} {s : List Se} {t : Tn}
theorem hon_mixE (hk : vld key = true) (hs : s.all okS = true) (hr : rightB t s.length = true) : mixE key s t = 0 := by
  have := (rightB_facts hr).2.2.2.2.2.1
  unfold mixE
  rw [hk, hs, hr, if_pos rfl, if_pos this]; rfl
theorem hon_mixC (hk : vld key = true) (hs : s.all okS = true) (hr : rightB t s.length = true) : mixC key s t = mixTo key s t s.length := by
  unfold mixC; rw [hon_mixE hk hs hr, if_pos rfl]
theorem hon_m : (mixTo key s t s.length).m = (List.range s.length).map (midAt key s t) := by
  show (List.range s.length).map (midAt key s t) ++ List.replicate (s.length - s.length) default = _
  rw [Nat.sub_self]; simp
theorem hon_mid {j : Nat} (hj : j < s.length) : (mixTo key s t s.length).m.getD j default = midAt key s t j := by rw [hon_m, map_range_get _ hj]
theorem hon_out (hr : rightB t s.length = true) {j : Nat} (hj : j < s.length) : (mixTo key s t s.length).o.getD (t.r.getD j default).toNat default = outAt key s t j := by
  obtain ⟨_, h2, _, _, _, _, _, h8⟩ := rightB_facts hr
  have hp := permB_iff.1 h8
  rw [h2] at hp
  exact layTo_get hp.1 hp.2 (by omega) j hj
theorem hon_okm (hk : vld key = true) (hs : s.all okS = true) (hr : rightB t s.length = true) {j : Nat} (hj : j < s.length) : okS (midAt key s t j) = true := by
  obtain ⟨h1, _, _, _, _, _, h7, _⟩ := rightB_facts hr
  have hat := permB_at h7 (k := j) (by omega)
  refine (again_ok' hk ?_ _).2
  exact List.all_eq_true.1 hs _ (mem_getD (by omega))
theorem hon_oko (hk : vld key = true) (hs : s.all okS = true) (hr : rightB t s.length = true) {j : Nat} (hj : j < s.length) : okS (outAt key s t j) = true := (again_ok' hk (hon_okm hk hs hr hj) _).2
theorem all_of_getD {l : List Se} (h : ∀ i, i < l.length → okS (l.getD i default) = true) : l.all okS = true := by
  rw [List.all_eq_true]
  intro x hx
  obtain ⟨i, hi, rfl⟩ := List.getElem_of_mem hx
  have := h i hi
  rwa [getD_eq_getElem' hi] at this
theorem hon_openC {bits : List Int} (hr : rightB t bits.length = true) (hb : bits.all bitB = true) : openE t bits = 0 ∧ openC t bits = openTo t bits bits.length := by
  have e : openE t bits = 0 := by unfold openE; rw [hr, hb]; rfl
  exact ⟨e, by unfold openC; rw [e, if_pos rfl]⟩
theorem openTo_len (bits : List Int) (k : Nat) : (openTo t bits k).length = k := by simp [openTo]
theorem openTo_get (bits : List Int) {k j : Nat} (h : j < k) : (openTo t bits k).getD j default = ogAt t j (bits.getD j default) := map_range_get _ h
/-- an honest opening is accepted -/
theorem hon_check {bits : List Int} (hk : vld key = true) (hs : s.all okS = true) (hr : rightB t s.length = true) (hl : bits.length = s.length) (hb : bits.all bitB = true) : checkB key (mixTo key s t s.length) bits (openTo t bits bits.length) = true := by
  obtain ⟨h1, h2, h3, h4, h5, h6, h7, h8⟩ := rightB_facts hr
  refine checkB_iff.2 ⟨?_, ?_, ?_, ?_, hl, ?_, hk, h6, hs, ?_, ?_, hb, ?_, ?_⟩
  · rw [hon_m]; simp [mixTo]
  · exact layTo_length _ _ _ _ _
  · simp [mixTo]
  · simp [mixTo]
  · rw [openTo_len]; exact hl
  · refine all_of_getD fun i hi => ?_
    rw [hon_m, List.length_map, List.length_range] at hi
    rw [hon_mid hi]
    exact hon_okm hk hs hr hi
  · refine all_of_getD fun i hi => ?_
    have hi' : i < s.length := by rw [show (mixTo key s t s.length).o.length = s.length from layTo_length _ _ _ _ _] at hi; exact hi
    obtain ⟨j, hj, e⟩ := permB_onto h8 (k := i) (by omega)
    have := hon_out (key := key) hr (j := j) (by omega)
    rw [e, Int.toNat_natCast] at this
    rw [this]
    exact hon_oko hk hs hr (by omega)
  · intro j hj
    have hj' : j < s.length := hj
    rw [openTo_get bits (by omega), fitsB_iff]
    rcases bit_at hb (j := j) (by omega) with e | e
    · rw [e]
      have hat := permB_at h7 (k := j) (by omega)
      refine ⟨hat.1, by show (t.l.getD j default) < (s.length : Int); rw [h1] at hat; exact hat.2, ?_, ?_⟩
      · rw [if_pos rfl]
        exact map_range_get (fun j => comN tagL (ogL t j)) hj'
      · rw [if_pos rfl, hon_mid hj']; rfl
    · rw [e]
      have hat := permB_at h8 (k := j) (by omega)
      refine ⟨hat.1, by show (t.r.getD j default) < (s.length : Int); rw [h2] at hat; exact hat.2, ?_, ?_⟩
      · rw [if_neg (by decide)]
        exact map_range_get (fun j => comN tagR (ogR t j)) hj'
      · rw [if_neg (by decide), hon_mid hj']
        show _ = (mixTo key s t s.length).o.getD (t.r.getD j default).toNat default
        rw [hon_out hr hj']; rfl
  · have hpl : (placesTo bits (openTo t bits bits.length) (mixTo key s t s.length).i.length).length = s.length := by simp [placesTo, mixTo]
    have hpg : ∀ j, j < s.length → (placesTo bits (openTo t bits bits.length) (mixTo key s t s.length).i.length).getD j default = (bits.getD j default, (ogAt t j (bits.getD j default)).a) := fun j hj => by
      have : (placesTo bits (openTo t bits bits.length) s.length).getD j default = (bits.getD j default, ((openTo t bits bits.length).getD j default).a) := map_range_get _ hj
      rw [openTo_get bits (by omega)] at this
      exact this
    refine List.pairwise_iff_getElem.2 fun i j hi hj hij e => ?_
    rw [hpl] at hi hj
    rw [← getD_eq_getElem', ← getD_eq_getElem', hpg i hi, hpg j hj] at e
    injection e with e1 e2
    rcases bit_at hb (j := j) (by omega) with b | b
    · rw [e1, b] at e2
      have := nodup_inj (permB_iff.1 h7).1 (i := i) (j := j) (by omega) (by omega) e2
      omega
    · rw [e1, b] at e2
      have := nodup_inj (permB_iff.1 h8).1 (i := i) (j := j) (by omega) (by omega) e2
      omega
theorem opp_bits {bits : List Int} (hb : bits.all bitB = true) : (opp bits).all bitB = true := by
  rw [List.all_eq_true]
  intro x hx
  obtain ⟨y, hy, rfl⟩ := List.mem_map.1 hx
  have := List.all_eq_true.1 hb y hy
  unfold bitB at this ⊢
  simp at this ⊢
  omega
/-- both openings put together -/
theorem hon_whole {bits : List Int} (hr : rightB t bits.length = true) (hb : bits.all bitB = true) : wholeB bits (openTo t bits bits.length) (openTo t (opp bits) bits.length) = true ∧ wholeC bits (openTo t bits bits.length) (openTo t (opp bits) bits.length) = goTo t.l t.r := by
  obtain ⟨h1, h2, h3, h4, h5, h6, h7, h8⟩ := rightB_facts hr
  have hL : leftTo bits (openTo t bits bits.length) (openTo t (opp bits) bits.length) bits.length = t.l := by
    refine ext_getD (by rw [leftTo_length, h1]) fun j hj => ?_
    rw [leftTo_length] at hj
    rw [leftTo_get hj]
    unfold leftAt
    rw [openTo_get bits hj, openTo_get (opp bits) hj, opp_get hj]
    rcases bit_at hb hj with e | e
    · rw [e, if_pos rfl]; rfl
    · rw [e, if_neg (by decide)]; rfl
  have hR : rightTo bits (openTo t bits bits.length) (openTo t (opp bits) bits.length) bits.length = t.r := by
    refine ext_getD (by rw [rightTo_length, h2]) fun j hj => ?_
    rw [rightTo_length] at hj
    rw [rightTo_get hj]
    unfold rightAt
    rw [openTo_get bits hj, openTo_get (opp bits) hj, opp_get hj]
    rcases bit_at hb hj with e | e
    · rw [e, if_pos rfl]; rfl
    · rw [e, if_neg (by decide)]; rfl
  have hW : wholeB bits (openTo t bits bits.length) (openTo t (opp bits) bits.length) = true := by
    unfold wholeB
    rw [hL, hR, h7, h8, decide_eq_true h6, hb, openTo_len, openTo_len, decide_eq_true rfl]
    rfl
  refine ⟨hW, ?_⟩
  unfold wholeC
  rw [hW, if_pos rfl, hL, hR]
theorem hon_trace {n : Nat} (hr : rightB t n = true) : traceE t = 0 ∧ traceC t = goTo t.l t.r := by
  obtain ⟨h1, _⟩ := rightB_facts hr
  unfold traceE traceC
  rw [h1, hr]
  exact ⟨rfl, rfl⟩
/-- where the k-th letter lies at last -/
theorem hon_at (hr : rightB t s.length = true) {k : Nat} (hk : k < s.length) : ∃ j, j < s.length ∧ ((goTo t.l t.r).getD k default).toNat < s.length ∧ 0 ≤ (goTo t.l t.r).getD k default ∧ (mixTo key s t s.length).o.getD ((goTo t.l t.r).getD k default).toNat default = againC key (againC key (s.getD k default) (t.rl.getD j default)) (t.rr.getD j default) := by
  obtain ⟨h1, h2, h3, h4, h5, h6, h7, h8⟩ := rightB_facts hr
  obtain ⟨j, hj, e⟩ := permB_onto h7 (k := k) (by omega)
  have hg := goTo_get (q := t.r) h7 hj
  rw [e, Int.toNat_natCast] at hg
  have hat := permB_at h8 (k := j) (by omega)
  have ho := hon_out (key := key) hr (j := j) (by omega)
  rw [hg]
  refine ⟨j, by omega, by omega, hat.1, ?_⟩
  rw [ho]
  unfold outAt midAt
  rw [e, Int.toNat_natCast]
end
/-! Letters that are sealed for one secret. -/
def addT (a b : Tr) : Tr := ⟨a.p + b.p, a.q + b.q, a.r + b.r⟩
theorem addT_get (a b : Tr) (i : Nat) : (addT a b).get i = a.get i + b.get i := by
  unfold addT Tr.get
  rcases i with _ | _ | i <;> rfl
def LH (s : Int) (t q : Tr) : Se := sealC (powC 4 s) t q
theorem hn_times {g a : Int} (hg : vld g = true) (ha : vld a = true) (p q : Int) : a * powC g p % 2147483579 * powC g q % 2147483579 = a * powC g (p + q) % 2147483579 := by
  have h1 := vld_powC hg p
  have h2 := vld_powC hg q
  rw [mul_in ha h1, mul_in (vld_mul ha h1) h2, mul_assoc' ha h1 h2, pow_add' hg, mul_in ha (vld_powC hg _)]
theorem hn_times0 {g a : Int} (hg : vld g = true) (ha : vld a = true) : a * powC g 0 % 2147483579 = a := by
  rw [pow_0 hg, mul_in ha vld_1, mul_one' ha]
theorem hn_more {key : Int} (hk : vld key = true) {c : Ci} (hc : okC c = true) (a b : Tr) (i : Nat) : moreC key b i (moreC key a i c) = moreC key (addT a b) i c := by
  obtain ⟨ha, hb⟩ := okC_iff.1 hc
  unfold moreC
  rw [addT_get]
  simp only
  rw [hn_times vld_4 ha, hn_times hk hb]
theorem hn_map {key : Int} (hk : vld key = true) {s : Se} (hs : okS s = true) (a b : Tr) : (s.map (moreC key a)).map (moreC key b) = s.map (moreC key (addT a b)) := by
  obtain ⟨h1, h2, h3⟩ := okS_iff.1 hs
  unfold Se.map
  simp only [hn_more hk h1, hn_more hk h2, hn_more hk h3]
theorem lh_seal (s : Int) {t : Tr} (hw : wOK t = true) (q : Tr) : LH s t q = (seal0 t).map (moreC (powC 4 s) q) ∧ sealE (powC 4 s) t = 0 ∧ okS (LH s t q) = true := by
  have hk := vld_powC vld_4 s
  unfold LH sealC sealE; rw [hk, hw]; exact ⟨rfl, rfl, okS_more hk (seal0_ok hw)⟩
theorem lh_again (s : Int) {t : Tr} (hw : wOK t = true) (q p : Tr) : againC (powC 4 s) (LH s t q) p = LH s t (addT q p) := by
  have hk := vld_powC vld_4 s
  rw [(again_ok' hk (lh_seal s hw q).2.2 p).1, (lh_seal s hw q).1, hn_map hk (seal0_ok hw), (lh_seal s hw (addT q p)).1]
theorem hn_strip {S n : Int} {e : Int} (he : vld e = true) (r : Tr) (i : Nat) : stripC n i (moreC (powC 4 S) r i ⟨1, e⟩) = moreC (powC 4 (S - n)) r i ⟨1, e⟩ := by
  have h4 := vld_4
  have hr := vld_powC h4 (r.get i)
  unfold stripC moreC
  simp only
  have e1 : 1 * powC 4 (r.get i) % 2147483579 = powC 4 (r.get i) := by
    have := powC_bd 4 (r.get i)
    rw [Int.one_mul]; exact Int.emod_eq_of_lt this.1 this.2
  rw [e1, pow_mul' h4, pow_mul' h4, pow_mul' h4, mul_in he (vld_powC h4 _), mul_in (vld_mul he (vld_powC h4 _)) (vld_powC h4 _), mul_assoc' he (vld_powC h4 _) (vld_powC h4 _), pow_add' h4, mul_in he (vld_powC h4 _)]
  have e2 : S * r.get i + r.get i * -n = (S - n) * r.get i := by rw [Int.sub_mul, Int.mul_neg, Int.mul_comm n]; omega
  rw [e2]
theorem lh_strip {s : Int} (hs : secB s = true) {t : Tr} (hw : wOK t = true) (q : Tr) : strpC s (LH s t q) = LH 0 t q ∧ strpE s (LH s t q) = 0 := by
  have hA := (lh_seal s hw q).2.2
  refine ⟨?_, by unfold strpE; rw [hs, if_pos rfl]; exact chS_0 hA⟩
  unfold strpC
  rw [hs, hA, (lh_seal s hw q).1, (lh_seal 0 hw q).1]
  obtain ⟨h1, h2, h3⟩ := okS_iff.1 (seal0_ok hw)
  have w1 : vld (elC t.p) = true := (okC_iff.1 h1).2
  have w2 : vld (elC t.q) = true := (okC_iff.1 h2).2
  have w3 : vld (elC t.r) = true := (okC_iff.1 h3).2
  show (⟨stripC s 0 (moreC _ q 0 ⟨1, elC t.p⟩), stripC s 1 (moreC _ q 1 ⟨1, elC t.q⟩), stripC s 2 (moreC _ q 2 ⟨1, elC t.r⟩)⟩ : Se) = ⟨moreC _ q 0 ⟨1, elC t.p⟩, moreC _ q 1 ⟨1, elC t.q⟩, moreC _ q 2 ⟨1, elC t.r⟩⟩
  rw [hn_strip w1, hn_strip w2, hn_strip w3, Int.sub_self]
theorem hn_nil {e : Int} (he : vld e = true) (q : Tr) (i : Nat) : (moreC (powC 4 0) q i ⟨1, e⟩).b = e := by
  unfold moreC
  show e * powC (powC 4 0) (q.get i) % 2147483579 = e
  rw [pow_mul' vld_4, Int.zero_mul]
  exact hn_times0 vld_4 he
theorem lh_read {t : Tr} (hw : wOK t = true) (q : Tr) : readC (LH 0 t q) = t := by
  have hA := (lh_seal 0 hw q).2.2
  unfold readC
  rw [hA, (lh_seal 0 hw q).1]
  obtain ⟨h1, h2, h3⟩ := okS_iff.1 (seal0_ok hw)
  show (⟨numC (moreC _ q 0 ⟨1, elC t.p⟩).b, numC (moreC _ q 1 ⟨1, elC t.q⟩).b, numC (moreC _ q 2 ⟨1, elC t.r⟩).b⟩ : Tr) = t
  rw [hn_nil (e := elC t.p) (okC_iff.1 h1).2, hn_nil (e := elC t.q) (okC_iff.1 h2).2, hn_nil (e := elC t.r) (okC_iff.1 h3).2]
  unfold wOK at hw
  simp only [Bool.and_eq_true] at hw
  obtain ⟨a, b, c⟩ := hw
  rw [num_el (elE_iff.1 a).1 (elE_iff.1 a).2, num_el (elE_iff.1 b).1 (elE_iff.1 b).2, num_el (elE_iff.1 c).1 (elE_iff.1 c).2]
end Go.Proofs.YthboebhghaabnaaDoor

set_option linter.unusedSimpArgs false
set_option linter.unusedVariables false
namespace Go.Proofs.YthboebhghaabnaaDoor
open Go.RowKit Go.WideShapes Go.ChangeShapes Go.ChangeMaps Go.Deep Fk Sha
/-! Letters and bits that grow by turns; openers. -/
structure AppS (base : Nat) (W0 : World) (L : List Se) (R : List Int) (v8 v9 : Value) (W : World) : Prop where
  b : Below base W0 W
  z : base ≤ W.heap.size
  o8 : W.ownsRow base 68 6 v8 L.length (L.flatMap encS)
  o9 : ownI base W v9 R
  d : ∀ k, v8.ownBlock = some k → v9.ownBlock ≠ some k
section
variable {base : Nat} {W0 W W' : World} {L : List Se} {R : List Int} {v8 v9 : Value}
theorem AppS.alloc (h : AppS base W0 L R v8 v9 W) (ob : Obj) : AppS base W0 L R v8 v9 (W.alloc ob) :=
  ⟨h.b.alloc h.z ob, by have := h.z; rw [World.size_alloc]; omega, World.ownsRow.alloc h.o8 ob, World.ownsRow.alloc h.o9 ob, h.d⟩
theorem AppS.below (h : AppS base W0 L R v8 v9 W) (hb : Below W.heap.size W W') : AppS base W0 L R v8 v9 W' :=
  ⟨h.b.trans (hb.mono h.z), Nat.le_trans h.z hb.size, World.ownsRow.kept h.o8 (grown_below' hb none) (Classical.em _), World.ownsRow.kept h.o9 (grown_below' hb none) (Classical.em _), h.d⟩
theorem AppS.left {g cap : Nat} {x : Se} (h : AppS base W0 L R v8 v9 W) (hown : W'.ownsRow base 68 6 (.slice (some ⟨g, 0, none⟩) (L.length + 1) cap) (L.length + 1) (L.flatMap encS ++ encS x)) (hgr : W.grownBy W' v8.ownBlock) (hat : v8.ownBlock = some g ∨ g = W.heap.size) :
    AppS base W0 (L ++ [x]) R (.slice (some ⟨g, 0, none⟩) (L.length + 1) cap) v9 W' := by
  refine ⟨h.b.grown hgr h.z (fun r e => (h.o8.lt r e).1), Nat.le_trans h.z hgr.size, ?_, h.o9.kept hgr ?_, ?_⟩
  · rw [List.length_append, List.flatMap_append]
    simpa using hown
  · rcases Classical.em (v9.ownBlock = none) with e | e
    · exact .inl e
    · right
      intro e2
      cases hv : v8.ownBlock with
      | none => rw [hv] at e2; exact e e2
      | some k => rw [hv] at e2; exact h.d k hv e2
  · intro k hk e
    have hk' : g = k := by injection hk
    subst hk'
    rcases hat with h1 | h1
    · exact h.d _ h1 e
    · have := (h.o9.lt _ e).2; omega
theorem AppS.right {g cap : Nat} {x : Int} (h : AppS base W0 L R v8 v9 W) (hown : W'.ownsRow base 3 1 (.slice (some ⟨g, 0, none⟩) (R.length + 1) cap) (R.length + 1) (R.map (Value.int .i64) ++ [.int .i64 x])) (hgr : W.grownBy W' v9.ownBlock) (hat : v9.ownBlock = some g ∨ g = W.heap.size) :
    AppS base W0 L (R ++ [x]) v8 (.slice (some ⟨g, 0, none⟩) (R.length + 1) cap) W' := by
  refine ⟨h.b.grown hgr h.z (fun r e => (h.o9.lt r e).1), Nat.le_trans h.z hgr.size, h.o8.kept hgr ?_, ?_, ?_⟩
  · rcases Classical.em (v8.ownBlock = none) with e | e
    · exact .inl e
    · right
      intro e2
      cases hv : v9.ownBlock with
      | none => rw [hv] at e2; exact e e2
      | some k => rw [hv] at e2; exact h.d k e2 hv
  · unfold ownI
    rw [List.length_append, List.map_append]
    exact hown
  · intro k hk e
    have hk' : g = k := by injection e
    subst hk'
    rcases hat with h1 | h1
    · exact h.d _ hk h1
    · have := (h.o8.lt _ hk).2; omega
end
section
variable {H : Type} {enc : TypeId × Value → H} {w : World} {base : Nat} {r : Reach}
theorem el_words {n : Nat} {cs : List Value} {x : DataW H × List MemPlace} (hc : cs.length = 3) (h : DataW.trod enc Tryd.prog w 0 (fun _ => true) true n 79 cs = some x) : ∃ a : Tr, wfR a ∧ cs = Tr.cells a := by
  obtain ⟨a, b, c, rfl, h1, h2, h3⟩ := three_ints hc Tryd.underlying79 Tryd.underlying3 (by kernel_rfl) h
  exact ⟨⟨a, b, c⟩, ⟨h1, h2, h3⟩, rfl⟩
set_option maxRecDepth 100000 in
theorem open_sl_words {v : Value} {d : DataW H} {p : List MemPlace} (hv : Value.okWide Tryd.prog w r base 76 v) (h : DataW.Trod enc Tryd.prog w 0 (fun _ => true) true 76 v d p) :
    ∃ l : List Tr, SlG 3 Tr.cells w w.heap.size v l ∧ ∀ i, i < l.length → wfR (l.getD i default) := by
  obtain ⟨a, len, cap, rfl⟩ := okWide_slice Tryd.underlying76 hv
  obtain ⟨fuel, hf⟩ := h
  rw [cells_slice] at hf
  obtain ⟨l, A, c, e, s, _, _, q⟩ := open_slG (m := 3) (en := Tr.cells) (Q := wfR) (by omega) Tryd.underlying76 (by kernel_rfl) (fun n cs x h1 h2 => el_words h1 h2) hf
  obtain ⟨rfl, rfl, rfl⟩ : a = A ∧ len = l.length ∧ cap = c := by simpa using e
  exact ⟨l, s, q⟩
set_option maxRecDepth 100000 in
theorem open_sl_tr {v : Value} {d : DataW H} {p : List MemPlace} (hv : Value.okWide Tryd.prog w r base 23 v) (h : DataW.Trod enc Tryd.prog w 0 (fun _ => true) true 23 v d p) :
    ∃ l : List Tr, SlG 3 Tr.cells w w.heap.size v l ∧ ∀ i, i < l.length → wfR (l.getD i default) := by
  obtain ⟨a, len, cap, rfl⟩ := okWide_slice Tryd.underlying23 hv
  obtain ⟨fuel, hf⟩ := h
  rw [cells_slice] at hf
  obtain ⟨l, A, c, e, s, _, _, q⟩ := open_slG (m := 3) (en := Tr.cells) (Q := wfR) (by omega) Tryd.underlying23 (by kernel_rfl) (fun n cs x h1 h2 => el_tr h1 h2) hf
  obtain ⟨rfl, rfl, rfl⟩ : a = A ∧ len = l.length ∧ cap = c := by simpa using e
  exact ⟨l, s, q⟩
end
set_option maxHeartbeats 400000 in
theorem rsecret14_any (n : Int) (w : World) :
    Calls Tryd.prog 35 #[.int .i64 n] w fun e w' => e = .returned (.bool (secB n)) ∧ Below w.heap.size w w' := by
  unfold secB
  by_cases h1 : 1 ≤ n
  · go_enter Tryd.func35, Tryd.ntmps35
    go_wp2
    go_ret
    exact ⟨by simp [h1], Below.refl _ _⟩
  · have h2 : n < 1 := by omega
    have h3 : decide (1 ≤ n) = false := by simpa using h1
    clear h1
    go_enter Tryd.func35, Tryd.ntmps35
    go_wp2
    go_ret
    exact ⟨by simp [h3], Below.refl _ _⟩
/-- the bits of a mask -/
def bitM (mask : Int) (k : Nat) : Int := bits .and .u8 (mask / 2 ^ k) 1
theorem and_one : ∀ n : Fin 256, bits .and .u8 (n.val : Int) 1 = 0 ∨ bits .and .u8 (n.val : Int) 1 = 1 := by decide +kernel
theorem bitM_bit {mask : Int} (h : 0 ≤ mask ∧ mask ≤ 255) (k : Nat) : bitM mask k = 0 ∨ bitM mask k = 1 := by
  unfold bitM
  have h1 : 0 ≤ mask / 2 ^ k := Int.ediv_nonneg h.1 (by exact Int.le_of_lt (Int.pow_pos (by decide)))
  have h2 : mask / 2 ^ k ≤ mask := Int.ediv_le_self _ h.1
  have := and_one ⟨(mask / 2 ^ k).toNat, by omega⟩
  rw [show (((mask / 2 ^ k).toNat : Nat) : Int) = mask / 2 ^ k by omega] at this
  exact this
def bitsM (mask : Int) (k : Nat) : List Int := (List.range k).map (bitM mask)
theorem bitsM_all {mask : Int} (h : 0 ≤ mask ∧ mask ≤ 255) (k : Nat) : (bitsM mask k).all bitB = true := by
  rw [List.all_eq_true]
  intro x hx
  obtain ⟨j, _, rfl⟩ := List.mem_map.1 hx
  rcases bitM_bit h j with e | e <;> rw [e] <;> rfl
def lettersTo (s : Int) (ws qs : List Tr) (k : Nat) : List Se := (List.range k).map fun j => LH s (ws.getD j default) (qs.getD j default)
end Go.Proofs.YthboebhghaabnaaDoor
