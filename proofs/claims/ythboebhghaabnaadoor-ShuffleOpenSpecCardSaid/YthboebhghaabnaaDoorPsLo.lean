import Derived.Test.YthboebhghaabnaaDoorPsl
import Derived.RegionTactic
import Derived.ChangeAlike
import Derived.BigRegion
set_option linter.unusedSimpArgs false
set_option linter.unusedVariables false
namespace Go.Proofs.YthboebhghaabnaaDoor
open Go.RowKit Fk Sha
/-! The reference of law 14: the halves of a letter; turns that are right; Open and Trace. -/
set_option maxRecDepth 100000 in
set_option maxHeartbeats 8000000 in
theorem rhalf0_any (t : Tn) (x : TnA) (j : Nat) (w : World) (h : TnS w w.heap.size x t) (hl : j < t.l.length) (hrl : j < t.rl.length) (hs : j < t.s.length) (h64 : (t.s.getD j default).length = 64) :
    Calls Tryd.prog 47 #[.agg (x.cells t).toArray, .int .i64 j, .int .i64 0] w fun e w' => e = .returned (.agg (ogL t j).cells.toArray) ∧ Below w.heap.size w w' := by
  have hB := (below_alloc' w (.cells (x.cells t).toArray 26)).alloc (by simp) (.cells zOgC.toArray 60)
  have r0 := Row.new w 26 (x.cells t)
  have r1 := r0.alloc (.cells zOgC.toArray 60)
  have r2 := Row.new (w.alloc (.cells (x.cells t).toArray 26)) 60 zOgC
  rw [World.size_alloc] at r2
  have h2 := h.below hB
  obtain ⟨W, hW⟩ : ∃ W : World, (w.alloc (.cells (x.cells t).toArray 26)).alloc (.cells zOgC.toArray 60) = W := ⟨_, rfl⟩
  rw [hW] at hB r1 r2 h2
  unfold TnA.cells at r1 hW ⊢
  have c0 : W.cell? ⟨w.heap.size, 0, none⟩ = some _ := r1.cell 0
  have c2 : W.cell? ⟨w.heap.size, 2, none⟩ = some _ := r1.cell 2
  have c4 : W.cell? ⟨w.heap.size, 4, none⟩ = some _ := r1.cell 4
  obtain ⟨b0, o0, ha0, hb0, e0⟩ := sl_at h2.l hl
  obtain ⟨b2, o2, ha2, hb2, e2⟩ := sl_at h2.rl hrl
  obtain ⟨b4, o4, ha4, hb4, e4⟩ := sl_at h2.s hs
  have hog : ogL t j = ⟨t.l.getD j default, t.rl.getD j default, ((t.s.getD j default).drop 0).take 32⟩ := rfl
  have hld := range_32 0 e4 h64 (by omega)
  rw [ha0] at c0 hW ⊢
  rw [ha2] at c2 hW ⊢
  rw [ha4] at c4 hW ⊢
  rw [hog]
  clear hog ha0 ha2 ha4 e4
  obtain ⟨sl, hsl⟩ : ∃ sl, ((t.s.getD j default).drop 0).take 32 = sl := ⟨_, rfl⟩
  have hsl32 : sl.length = 32 := by rw [← hsl, List.length_take, List.length_drop, h64]; rfl
  rw [hsl] at hld ⊢
  obtain ⟨o, ho⟩ : ∃ o : Og, (⟨t.l.getD j default, t.rl.getD j default, sl⟩ : Og) = o := ⟨_, rfl⟩
  have hlen : o.cells.length = 36 := by rw [← ho]; simp [Og.cells, hsl32]
  have hone : ∀ v ∈ o.cells, v.oneCell' = true := og_one o
  have hst := fun (W' : World) (hR : Row W' (w.heap.size + 1) 60 zOgC) => store_og o.cells (by rw [← ho]; simp [Og.cells, hsl32]) hone hR (by simp [zOgC])
  rw [ho]
  have d0 := e0 0 (by omega)
  have d2 := e2 0 (by omega)
  have d3 := e2 1 (by omega)
  have d4 := e2 2 (by omega)
  replace d0 : W.cell? ⟨b0, o0 + j, none⟩ = some (.int .i64 o.a) := by rw [← ho]; simpa [encI] using d0
  replace d2 : W.cell? ⟨b2, o2 + j * 3, none⟩ = some (.int .i64 o.r.p) := by rw [← ho]; simpa [Tr.cells] using d2
  replace d3 : W.cell? ⟨b2, o2 + j * 3 + 1, none⟩ = some (.int .i64 o.r.q) := by rw [← ho]; simpa [Tr.cells] using d3
  replace d4 : W.cell? ⟨b2, o2 + j * 3 + 2, none⟩ = some (.int .i64 o.r.r) := by rw [← ho]; simpa [Tr.cells] using d4
  have hrg : W.drew.rangeAt b4 (o4 + j * 64) (o.s.map bv) := by rw [← ho]; exact hld
  have hinf : (Tryd.prog.info? 58).map (·.size) = some (o.s.map bv).length := by rw [← ho, List.length_map, hsl32]; kernel_rfl
  have hbt : Tryd.prog.built 60 [(0, .int .i64 o.a), (1, .agg #[.int .i64 o.r.p, .int .i64 o.r.q, .int .i64 o.r.r]), (2, .agg (o.s.map bv).toArray)] = some o.cells.toArray := built_og o (by rw [← ho]; exact hsl32)
  have hst2 := hst W.drew r2
  have s1 : (0 : Int) ≤ j := by omega
  have s2 : (j : Int) < t.l.length := by omega
  have s3 : (j : Int) < t.rl.length := by omega
  have s4 : (j : Int) < t.s.length := by omega
  clear e0 e2 hb0 hb2 hb4 hld hsl32 h2 h r0 hrl hl hs h64 hsl
  go_enter Tryd.func47, Tryd.ntmps47
  go_upto_region 2 with fail
  refine (show _ = W from hW) ▸ ?_
  clear hW
  go_still_tail 17, (by kernel_rfl)
  refine still_load _ _ _ rfl rfl hrg Tryd.underlying58 rfl hinf rfl ?_
  refine still_build _ rfl rfl hbt rfl ?_
  refine wpStill_nil ?_
  change wpList _ _ _ _ _ W.drew
  have hR6 : Row (W.drew.setRow (w.heap.size + 1) o.cells.toArray) (w.heap.size + 1) 60 o.cells := setRow_heap W.drew _ _ _ _ _ r2
  have hB7 := below_setRow hB.drew (Nat.le_succ w.heap.size) o.cells.toArray
  generalize W.drew.setRow (w.heap.size + 1) o.cells.toArray = W7 at *
  generalize W.drew = W6 at *
  clear hbt hrg hinf hone c0 c2 c4 d0 d2 d3 d4 hst
  go_wp2_with fail
  have hinf : (Tryd.prog.info? 60).map (·.size) = some 36 := by kernel_rfl
  exact bodyPost_ret (v := .agg o.cells.toArray) (results_cell_row (g := w.heap.size + 1) (t := 60) (fr := (0, 0)) rfl _ _ _ _ rfl hR6 Tryd.underlying60 rfl (by rw [hinf]; simp [hlen])) rfl ⟨rfl, hB7⟩
set_option maxRecDepth 100000 in
set_option maxHeartbeats 8000000 in
theorem rhalf1_any (t : Tn) (x : TnA) (j : Nat) (w : World) (h : TnS w w.heap.size x t) (hl : j < t.r.length) (hrl : j < t.rr.length) (hs : j < t.s.length) (h64 : (t.s.getD j default).length = 64) :
    Calls Tryd.prog 47 #[.agg (x.cells t).toArray, .int .i64 j, .int .i64 1] w fun e w' => e = .returned (.agg (ogR t j).cells.toArray) ∧ Below w.heap.size w w' := by
  have hB := (below_alloc' w (.cells (x.cells t).toArray 26)).alloc (by simp) (.cells zOgC.toArray 60)
  have r0 := Row.new w 26 (x.cells t)
  have r1 := r0.alloc (.cells zOgC.toArray 60)
  have r2 := Row.new (w.alloc (.cells (x.cells t).toArray 26)) 60 zOgC
  rw [World.size_alloc] at r2
  have h2 := h.below hB
  obtain ⟨W, hW⟩ : ∃ W : World, (w.alloc (.cells (x.cells t).toArray 26)).alloc (.cells zOgC.toArray 60) = W := ⟨_, rfl⟩
  rw [hW] at hB r1 r2 h2
  unfold TnA.cells at r1 hW ⊢
  have c0 : W.cell? ⟨w.heap.size, 1, none⟩ = some _ := r1.cell 1
  have c2 : W.cell? ⟨w.heap.size, 3, none⟩ = some _ := r1.cell 3
  have c4 : W.cell? ⟨w.heap.size, 4, none⟩ = some _ := r1.cell 4
  obtain ⟨b0, o0, ha0, hb0, e0⟩ := sl_at h2.r hl
  obtain ⟨b2, o2, ha2, hb2, e2⟩ := sl_at h2.rr hrl
  obtain ⟨b4, o4, ha4, hb4, e4⟩ := sl_at h2.s hs
  have hog : ogR t j = ⟨t.r.getD j default, t.rr.getD j default, ((t.s.getD j default).drop 32).take 32⟩ := rfl
  have hld := range_32 32 e4 h64 (by omega)
  rw [ha0] at c0 hW ⊢
  rw [ha2] at c2 hW ⊢
  rw [ha4] at c4 hW ⊢
  rw [hog]
  clear hog ha0 ha2 ha4 e4
  obtain ⟨sl, hsl⟩ : ∃ sl, ((t.s.getD j default).drop 32).take 32 = sl := ⟨_, rfl⟩
  have hsl32 : sl.length = 32 := by rw [← hsl, List.length_take, List.length_drop, h64]; rfl
  rw [hsl] at hld ⊢
  obtain ⟨o, ho⟩ : ∃ o : Og, (⟨t.r.getD j default, t.rr.getD j default, sl⟩ : Og) = o := ⟨_, rfl⟩
  have hlen : o.cells.length = 36 := by rw [← ho]; simp [Og.cells, hsl32]
  have hone : ∀ v ∈ o.cells, v.oneCell' = true := og_one o
  have hst := fun (W' : World) (hR : Row W' (w.heap.size + 1) 60 zOgC) => store_og o.cells (by rw [← ho]; simp [Og.cells, hsl32]) hone hR (by simp [zOgC])
  rw [ho]
  have d0 := e0 0 (by omega)
  have d2 := e2 0 (by omega)
  have d3 := e2 1 (by omega)
  have d4 := e2 2 (by omega)
  replace d0 : W.cell? ⟨b0, o0 + j, none⟩ = some (.int .i64 o.a) := by rw [← ho]; simpa [encI] using d0
  replace d2 : W.cell? ⟨b2, o2 + j * 3, none⟩ = some (.int .i64 o.r.p) := by rw [← ho]; simpa [Tr.cells] using d2
  replace d3 : W.cell? ⟨b2, o2 + j * 3 + 1, none⟩ = some (.int .i64 o.r.q) := by rw [← ho]; simpa [Tr.cells] using d3
  replace d4 : W.cell? ⟨b2, o2 + j * 3 + 2, none⟩ = some (.int .i64 o.r.r) := by rw [← ho]; simpa [Tr.cells] using d4
  have hrg : W.drew.rangeAt b4 (o4 + j * 64 + 32) (o.s.map bv) := by rw [← ho]; exact hld
  have hinf : (Tryd.prog.info? 58).map (·.size) = some (o.s.map bv).length := by rw [← ho, List.length_map, hsl32]; kernel_rfl
  have hbt : Tryd.prog.built 60 [(0, .int .i64 o.a), (1, .agg #[.int .i64 o.r.p, .int .i64 o.r.q, .int .i64 o.r.r]), (2, .agg (o.s.map bv).toArray)] = some o.cells.toArray := built_og o (by rw [← ho]; exact hsl32)
  have hst2 := hst W.drew r2
  have s1 : (0 : Int) ≤ j := by omega
  have s2 : (j : Int) < t.r.length := by omega
  have s3 : (j : Int) < t.rr.length := by omega
  have s4 : (j : Int) < t.s.length := by omega
  clear e0 e2 hb0 hb2 hb4 hld hsl32 h2 h r0 hrl hl hs h64 hsl
  go_enter Tryd.func47, Tryd.ntmps47
  go_upto_region 3 with fail
  refine (show _ = W from hW) ▸ ?_
  clear hW
  go_still_tail 17, (by kernel_rfl)
  refine still_load _ _ _ rfl rfl hrg Tryd.underlying58 rfl hinf rfl ?_
  refine still_build _ rfl rfl hbt rfl ?_
  refine wpStill_nil ?_
  change wpList _ _ _ _ _ W.drew
  have hR6 : Row (W.drew.setRow (w.heap.size + 1) o.cells.toArray) (w.heap.size + 1) 60 o.cells := setRow_heap W.drew _ _ _ _ _ r2
  have hB7 := below_setRow hB.drew (Nat.le_succ w.heap.size) o.cells.toArray
  generalize W.drew.setRow (w.heap.size + 1) o.cells.toArray = W7 at *
  generalize W.drew = W6 at *
  clear hbt hrg hinf hone c0 c2 c4 d0 d2 d3 d4 hst
  go_wp2_with fail
  have hinf : (Tryd.prog.info? 60).map (·.size) = some 36 := by kernel_rfl
  exact bodyPost_ret (v := .agg o.cells.toArray) (results_cell_row (g := w.heap.size + 1) (t := 60) (fr := (0, 0)) rfl _ _ _ _ rfl hR6 Tryd.underlying60 rfl (by rw [hinf]; simp [hlen])) rfl ⟨rfl, hB7⟩
theorem rhalf_any (t : Tn) (x : TnA) (j : Nat) (b : Int) (w : World) (h : TnS w w.heap.size x t) (hb : b = 0 ∨ b = 1) (hl : j < t.l.length) (hr : j < t.r.length) (hrl : j < t.rl.length) (hrr : j < t.rr.length) (hs : j < t.s.length) (h64 : (t.s.getD j default).length = 64) :
    Calls Tryd.prog 47 #[.agg (x.cells t).toArray, .int .i64 j, .int .i64 b] w fun e w' => e = .returned (.agg (ogAt t j b).cells.toArray) ∧ Below w.heap.size w w' := by
  rcases hb with rfl | rfl
  · exact rhalf0_any t x j w h hl hrl hs h64
  · exact rhalf1_any t x j w h hr hrr hs h64
set_option maxRecDepth 100000 in
set_option maxHeartbeats 4000000 in
theorem rright_any (t : Tn) (x : TnA) (n : Nat) (w : World) (h : TnS w w.heap.size x t) :
    Calls Tryd.prog 32 #[.agg (x.cells t).toArray, .int .i64 n] w fun e w' => e = .returned (.bool (rightB t n)) ∧ Below w.heap.size w w' := by
  have hD : rightB t n = ((decide (t.l.length = n) && (decide (t.r.length = n) && (decide (t.rl.length = n) && (decide (t.rr.length = n) && decide (t.s.length = n))))) && (decide (n ≤ 64) && (permB t.l && permB t.r))) := rfl
  have hB := below_alloc' w (.cells (x.cells t).toArray 26)
  have r0 := Row.new w 26 (x.cells t)
  have h2 := h.below hB
  obtain ⟨W, hW⟩ : ∃ W, w.alloc (.cells (x.cells t).toArray 26) = W := ⟨_, rfl⟩
  replace r0 : Row W w.heap.size 26 (x.cells t) := hW ▸ r0
  rw [hW] at hB h2
  obtain ⟨al, cl, ar, cr, arl, crl, arr, crr, at_, ct⟩ := x
  unfold TnA.cells at r0 hW ⊢
  simp only at r0 hW h2 ⊢
  replace hW : w.alloc (.cells #[.slice al t.l.length cl, .slice ar t.r.length cr, .slice arl t.rl.length crl, .slice arr t.rr.length crr, .slice at_ t.s.length ct] 26) = W := hW
  obtain ⟨c0, c1, c2, c3, c4⟩ := st5c r0
  have hz := hB.size
  have P1 := Lib.hid (fun W' (hb : Below W.heap.size W W') => rperm_any t.l _ W' (((h2.l.mono hz).below hb).mono hb.size))
  have P2 := Lib.hid (fun W' (hb : Below W.heap.size W W') => rperm_any t.r _ W' (((h2.r.mono hz).below hb).mono hb.size))
  have hlt := r0.lt
  clear h h2
  have nn : ¬ ((n : Int) < 0) := by omega
  by_cases f0 : n ≤ 64
  rotate_left 1
  · have q := Lib.hid (show rightB t n = false by rw [hD]; simp [f0])
    have z0 : (64 : Int) < n := by omega
    clear f0
    clear hD
    go_enter Tryd.func32, Tryd.ntmps32
    go_upto_region 1 with fail
    try rw [hW]
    clear hW
    go_wp2_with fail
    go_ret
    exact ⟨ret_bool q.out.symm, hB⟩
  by_cases f1 : t.l.length = n
  rotate_left 1
  · have q := Lib.hid (show rightB t n = false by rw [hD]; simp [f1])
    have g1 : (((t.l).length : Int) != n) = true := by simp; omega
    have z0 : ¬ ((64 : Int) < n) := by omega
    clear f0 f1
    clear hD
    go_enter Tryd.func32, Tryd.ntmps32
    go_upto_region 1 with fail
    try rw [hW]
    clear hW
    go_wp2_with fail
    go_ret
    exact ⟨ret_bool q.out.symm, hB⟩
  by_cases f2 : t.r.length = n
  rotate_left 1
  · have q := Lib.hid (show rightB t n = false by rw [hD]; simp [f2])
    have g1 : (((t.l).length : Int) != n) = false := by simp [f1]
    have g2 : (((t.r).length : Int) != n) = true := by simp; omega
    have z0 : ¬ ((64 : Int) < n) := by omega
    clear f0 f1 f2
    clear hD
    go_enter Tryd.func32, Tryd.ntmps32
    go_upto_region 1 with fail
    try rw [hW]
    clear hW
    go_wp2_with fail
    go_ret
    exact ⟨ret_bool q.out.symm, hB⟩
  by_cases f3 : t.rl.length = n
  rotate_left 1
  · have q := Lib.hid (show rightB t n = false by rw [hD]; simp [f3])
    have g1 : (((t.l).length : Int) != n) = false := by simp [f1]
    have g2 : (((t.r).length : Int) != n) = false := by simp [f2]
    have g3 : (((t.rl).length : Int) != n) = true := by simp; omega
    have z0 : ¬ ((64 : Int) < n) := by omega
    clear f0 f1 f2 f3
    clear hD
    go_enter Tryd.func32, Tryd.ntmps32
    go_upto_region 1 with fail
    try rw [hW]
    clear hW
    go_wp2_with fail
    go_ret
    exact ⟨ret_bool q.out.symm, hB⟩
  by_cases f4 : t.rr.length = n
  rotate_left 1
  · have q := Lib.hid (show rightB t n = false by rw [hD]; simp [f4])
    have g1 : (((t.l).length : Int) != n) = false := by simp [f1]
    have g2 : (((t.r).length : Int) != n) = false := by simp [f2]
    have g3 : (((t.rl).length : Int) != n) = false := by simp [f3]
    have g4 : (((t.rr).length : Int) != n) = true := by simp; omega
    have z0 : ¬ ((64 : Int) < n) := by omega
    clear f0 f1 f2 f3 f4
    clear hD
    go_enter Tryd.func32, Tryd.ntmps32
    go_upto_region 1 with fail
    try rw [hW]
    clear hW
    go_wp2_with fail
    go_ret
    exact ⟨ret_bool q.out.symm, hB⟩
  by_cases f5 : t.s.length = n
  rotate_left 1
  · have q := Lib.hid (show rightB t n = false by rw [hD]; simp [f5])
    have g1 : (((t.l).length : Int) != n) = false := by simp [f1]
    have g2 : (((t.r).length : Int) != n) = false := by simp [f2]
    have g3 : (((t.rl).length : Int) != n) = false := by simp [f3]
    have g4 : (((t.rr).length : Int) != n) = false := by simp [f4]
    have g5 : (((t.s).length : Int) != n) = true := by simp; omega
    have z0 : ¬ ((64 : Int) < n) := by omega
    clear f0 f1 f2 f3 f4 f5
    clear hD
    go_enter Tryd.func32, Tryd.ntmps32
    go_upto_region 1 with fail
    try rw [hW]
    clear hW
    go_wp2_with fail
    go_ret
    exact ⟨ret_bool q.out.symm, hB⟩
  have g1 : (((t.l).length : Int) != n) = false := by simp [f1]
  have g2 : (((t.r).length : Int) != n) = false := by simp [f2]
  have g3 : (((t.rl).length : Int) != n) = false := by simp [f3]
  have g4 : (((t.rr).length : Int) != n) = false := by simp [f4]
  have g5 : (((t.s).length : Int) != n) = false := by simp [f5]
  have z0 : ¬ ((64 : Int) < n) := by omega
  have hD2 : rightB t n = (permB t.l && permB t.r) := by rw [hD]; simp [f0, f1, f2, f3, f4, f5]
  clear hD f0 f1 f2 f3 f4 f5
  cases p1 : permB t.l with
  | false =>
    have q := Lib.hid (show rightB t n = false by rw [hD2, p1]; rfl)
    rw [p1] at P1
    clear hD2 p1
    go_enter Tryd.func32, Tryd.ntmps32
    go_upto_region 1 with fail
    try rw [hW]
    clear hW
    go_wp2_with (go_at_call 25; (with_reducible refine (P1.out _ (Below.refl _ _)).mono ?_); rintro e w1 ⟨rfl, hb⟩)
    go_ret
    exact ⟨ret_bool q.out.symm, hB.trans (hb.mono hz)⟩
  | true =>
    rw [p1] at P1
    have q := Lib.hid (show rightB t n = permB t.r by rw [hD2, p1]; rfl)
    clear hD2 p1
    go_enter Tryd.func32, Tryd.ntmps32
    go_upto_region 1 with fail
    try rw [hW]
    clear hW
    go_wp2_with (first
      | (go_at_call 25; (with_reducible refine (P1.out _ (Below.refl _ _)).mono ?_); rintro e w1 ⟨rfl, hb⟩; have m1 : w1.cell? ⟨w.heap.size, 1, none⟩ = _ := (hb.cell (p := ⟨w.heap.size, 1, none⟩) hlt).trans c1)
      | (go_at_call 25; (with_reducible refine (P2.out _ hb).mono ?_); rintro e w2 ⟨rfl, hb2⟩; replace hb := hb.trans (hb2.mono hb.size)))
    go_ret
    exact ⟨ret_bool q.out.symm, hB.trans (hb.mono hz)⟩
end Go.Proofs.YthboebhghaabnaaDoor

set_option linter.unusedSimpArgs false
set_option linter.unusedVariables false
namespace Go.Proofs.YthboebhghaabnaaDoor
open Go.RowKit Fk Sha
/-! The reference of law 14: Open and Trace. -/
set_option maxRecDepth 100000 in
set_option maxHeartbeats 4000000 in
theorem ropen_main (t : Tn) (x : TnA) (bits : List Int) (A : Option Addr) (c : Nat) (w : World) (h : TnS w w.heap.size x t) (hb : SlI w w.heap.size (.slice A bits.length c) bits) (h64 : ∀ i, i < t.s.length → (t.s.getD i default).length = 64) (hr : rightB t bits.length = true) (hbit : bits.all bitB = true) :
    Calls Tryd.prog 14 #[.agg (x.cells t).toArray, .slice A bits.length c] w fun e w' => ∃ v, e = .returned (.tuple #[v, .int .i64 0]) ∧ Below w.heap.size w w' ∧ SlG 36 Og.cells w' w'.heap.size v (openTo t bits bits.length) := by
  obtain ⟨f1, f2, f3, f4, f5, f6, f7, f8⟩ := rightB_facts hr
  have hB := below_alloc' w (.cells (x.cells t).toArray 26)
  have r0 := Row.new w 26 (x.cells t)
  have h2 := h.below hB
  have hb2 := hb.below hB
  obtain ⟨W, hW⟩ : ∃ W, w.alloc (.cells (x.cells t).toArray 26) = W := ⟨_, rfl⟩
  replace r0 : Row W w.heap.size 26 (x.cells t) := hW ▸ r0
  rw [hW] at hB h2 hb2
  have q1 := rright_any t x bits.length W (h2.mono hB.size)
  rw [hr] at q1
  have q2 := fun (w' : World) (hbb : Below W.heap.size W w') => rbits_any bits _ w' ((hb2.belowN hbb hB.size).mono (Nat.le_trans hB.size hbb.size))
  rw [hbit] at q2
  have q4 := fun (j : Nat) (b : Int) (w' : World) (hbb : Below W.heap.size W w') (h1 : b = 0 ∨ b = 1) (hj : j < bits.length) => rhalf_any t x j b w' ((h2.below (hbb.mono hB.size)).mono (Nat.le_trans hB.size hbb.size)) h1 (by omega) (by omega) (by omega) (by omega) (by omega) (h64 j (by omega))
  have q5 := fun (j : Nat) (b : Int) (h1 : b = 0 ∨ b = 1) (hj : j < bits.length) => (show (ogAt t j b).s.length = 32 by
    rcases h1 with rfl | rfl
    · exact ogL_ok (by omega) h64
    · exact ogR_ok (by omega) h64)
  have q6 := fun (j : Nat) (hj : j < bits.length) => bit_at hbit hj
  obtain ⟨al, cl, ar, cr, arl, crl, arr, crr, at_, ct⟩ := x
  unfold TnA.cells at r0 hW q1 q4 ⊢
  simp only at r0 hW q1 q4 ⊢
  replace hW : w.alloc (.cells #[.slice al t.l.length cl, .slice ar t.r.length cr, .slice arl t.rl.length crl, .slice arr t.rr.length crr, .slice at_ t.s.length ct] 26) = W := hW
  obtain ⟨c0, c1, c2, c3, c4⟩ := st5c r0
  have hlt := r0.lt
  have Q1 := Lib.hid q1
  have Q2 := Lib.hid q2
  have Q4 := Lib.hid q4
  have Q5 := Lib.hid q5
  have Q6 := Lib.hid q6
  have H2 := Lib.hid hb2
  obtain ⟨i0, hi, hz0, hz1, hz2⟩ := info_parts infoOg
  clear q1 q2 q4 q5 q6 hr hbit h hb h64 h2 hb2 f1 f2 f3 f4 f5 f7 f8 r0
  generalize t.l.length = m0 at *
  generalize t.r.length = m1 at *
  generalize t.rl.length = m2 at *
  generalize t.rr.length = m3 at *
  generalize t.s.length = m4 at *
  go_enter Tryd.func14, Tryd.ntmps14
  go_upto_region 1 with fail
  try rw [hW]
  clear hW
  go_upto_region 7 with (first
    | (go_at_call 32; (with_reducible refine Q1.out.mono ?_); rintro e w1 ⟨rfl, hb1⟩)
    | (go_at_call 46; (with_reducible refine (Q2.out _ hb1).mono ?_); rintro e w2 ⟨rfl, hb2⟩; replace hb2 := hb1.trans (hb2.mono hb1.size)))
  have hz4 := hb2.size
  go_wp2_with fail
  go_loopg [6, 7] bits.length (fun gg v iv wr => ∃ k : Nat, iv = .int .i64 k ∧ k + gg = bits.length ∧ Below W.heap.size W wr ∧ ownO W.heap.size wr v (openTo t bits k))
  case atStart => exact ⟨0, rfl, by omega, hb2, World.ownsRow_nil _ _ _ _⟩
  case round =>
    obtain ⟨k, rfl, hkg, hBr, hown⟩ := hrel
    have hzr := hBr.size
    by_cases hk : k < bits.length
    · obtain ⟨b0, o0, ha0, hb0, e0⟩ := sl_at (H2.out.belowN hBr hB.size) hk
      subst ha0
      have d0 := e0 0 (by omega)
      have hbt := Q6.out k hk
      have hsu := openTo_succ t bits k
      have hol := openTo_length t bits k
      rw [show ownO W.heap.size wr u6 (openTo t bits k) = wr.ownsRow W.heap.size 60 36 u6 k ((openTo t bits k).flatMap Og.cells) by unfold ownO; rw [hol]] at hown
      obtain ⟨b, hbb⟩ : ∃ b, bits.getD k default = b := ⟨_, rfl⟩
      rw [hbb] at hbt hsu
      simp only [encI, hbb, List.getD_cons_zero, Nat.add_zero, Nat.mul_one] at d0
      have q4 := Q4.out k b
      have q5 := Q5.out k b hbt hk
      obtain ⟨o, ho⟩ : ∃ o, ogAt t k b = o := ⟨_, rfl⟩
      rw [ho] at q4 q5 hsu
      have q7 := fun w => one_og o q5 w
      have s1 : (0 : Int) ≤ k := by omega
      have s2 : (k : Int) < bits.length := by omega
      have m0' : wr.cell? ⟨w.heap.size, 0, none⟩ = _ := (hBr.cell (p := ⟨w.heap.size, 0, none⟩) hlt).trans c0
      have m1' : wr.cell? ⟨w.heap.size, 1, none⟩ = _ := (hBr.cell (p := ⟨w.heap.size, 1, none⟩) hlt).trans c1
      have m2' : wr.cell? ⟨w.heap.size, 2, none⟩ = _ := (hBr.cell (p := ⟨w.heap.size, 2, none⟩) hlt).trans c2
      have m3' : wr.cell? ⟨w.heap.size, 3, none⟩ = _ := (hBr.cell (p := ⟨w.heap.size, 3, none⟩) hlt).trans c3
      have m4' : wr.cell? ⟨w.heap.size, 4, none⟩ = _ := (hBr.cell (p := ⟨w.heap.size, 4, none⟩) hlt).trans c4
      have hb0r : b0 < wr.heap.size := by omega
      have HSU := Lib.hid hsu
      have Q4' := Lib.hid q4
      have Q5' := Lib.hid q5
      clear q4 q5 hsu hol hbb ho e0
      go_upto_region 9 with fail
      have hS : wr.drew.cell? ⟨b0, o0 + k, none⟩ = some (.int .i64 b) ∧ wr.drew.cell? ⟨w.heap.size, 0, none⟩ = some (.slice al m0 cl) ∧ wr.drew.cell? ⟨w.heap.size, 1, none⟩ = some (.slice ar m1 cr) ∧ wr.drew.cell? ⟨w.heap.size, 2, none⟩ = some (.slice arl m2 crl) ∧ wr.drew.cell? ⟨w.heap.size, 3, none⟩ = some (.slice arr m3 crr) ∧ wr.drew.cell? ⟨w.heap.size, 4, none⟩ = some (.slice at_ m4 ct) := ⟨d0, m0', m1', m2', m3', m4'⟩
      refine wp_region_ord 8 [(0, 0), (1, 1), (1, 2), (1, 3), (1, 4), (1, 5), (1, 6), (2, 7)] (fun w' => w'.cell? ⟨b0, o0 + k, none⟩ = some (.int .i64 b) ∧ w'.cell? ⟨w.heap.size, 0, none⟩ = some (.slice al m0 cl) ∧ w'.cell? ⟨w.heap.size, 1, none⟩ = some (.slice ar m1 cr) ∧ w'.cell? ⟨w.heap.size, 2, none⟩ = some (.slice arl m2 crl) ∧ w'.cell? ⟨w.heap.size, 3, none⟩ = some (.slice arr m3 crr) ∧ w'.cell? ⟨w.heap.size, 4, none⟩ = some (.slice at_ m4 ct)) (by kernel_rfl) (by kernel_rfl) (fun _ _ d _ _ h => by cases d <;> exact h) hS ?_
      have q : Calls Tryd.prog 47 _ _ _ := Q4'.out wr.drew hBr.drew hbt hk
      have hown6 : wr.drew.ownsRow W.heap.size 60 36 u6 k ((openTo t bits k).flatMap Og.cells) := World.ownsRow.kept hown (grown_below' (Below.refl _ _).drew none) (Classical.em _)
      have hB6 : Below W.heap.size W wr.drew := hBr.drew
      have hw6 : w.heap.size < wr.drew.heap.size := Nat.lt_of_lt_of_le hlt hB6.size
      have hb06 : b0 < wr.drew.heap.size := hb0r
      generalize wr.drew = W6 at *
      have QQ := Lib.hid q
      clear q hown m0' m1' m2' m3' m4' d0 hBr
      refine wpOrd_any (v := u6) rfl (by rfl) (fun w => ?_) ?_
      · go_simp
      simp only [Act.put, List.setIfInBounds_toArray, List.set_cons_zero, List.set_cons_succ]
      iterate 6
        refine wpOrd_take (v := ?_) rfl (by rfl) (fun w hSw => ?_) ?_
        rotate_left 1
        · obtain ⟨k0, k2, k3, k4, k5, k6⟩ := hSw
          go_simp
          with_reducible rfl
        simp only [Act.put, List.setIfInBounds_toArray, List.set_cons_zero, List.set_cons_succ]
      refine wpOrd_step rfl (fun K hK => ⟨by rfl, ?_⟩)
      go_simp
      go_at_call 47
      refine QQ.out.mono ?_
      rintro e w7 ⟨rfl, hb7⟩
      have hbc := bcellK hb7
      refine hK _ _ ⟨(hbc.1 _ _ hb06).trans hS.1, (hbc.1 _ _ hw6).trans hS.2.1, (hbc.1 _ _ hw6).trans hS.2.2.1, (hbc.1 _ _ hw6).trans hS.2.2.2.1, (hbc.1 _ _ hw6).trans hS.2.2.2.2.1, (hbc.1 _ _ hw6).trans hS.2.2.2.2.2⟩ ?_
      clear hK K hS hbc
      try simp only [Act.put, List.setIfInBounds_toArray, List.set_cons_zero, List.set_cons_succ]
      refine wpOrd_nil ?_
      simp only [List.drop_succ_cons, List.drop_zero]
      go_wp2_with (first
        | (refine wpList_one rfl 30 60 _ rfl o.cells.toArray rfl (q7 _) ?_)
        | (at_builtin; refine wpList_append_lies _ rfl _ _ 30 rfl W.heap.size 60 i0 (.agg zOgC.toArray) 36 64 Tryd.underlying30 hi hz0 hz1 hz2 rfl (by decide) _ _ _ rfl ((World.ownsRow.kept hown6 (grown_below' hb7 none) (Classical.em _)).alloc _) ⟨w7.heap.size, 0, none⟩ 1 1 o.cells rfl (og_len Q5'.out) (cells_row (Row.new w7 _ _)) (og_one o) (by decide) (by unfold maxLen; omega) (by omega) (by have := hB6.size; have := hb7.size; rw [World.size_alloc]; omega) _ rfl ?_; intro g1 cap1 w8 hown8 hgr hat hlt8))
      go_roundg (gk - 1)
      case measure => omega
      case rel =>
        refine ⟨k + 1, by first | rfl | go_num, by omega, ?_, ?_⟩
        · have h7 := hB6.trans (hb7.mono hB6.size)
          exact (h7.alloc h7.size _).grown hgr (by have := h7.size; rw [World.size_alloc]; omega) (fun r e => (hown6.lt r e).1)
        · unfold ownO
          rw [HSU.out, List.length_append, openTo_length, List.flatMap_append]
          simpa using hown8
    · obtain rfl : k = bits.length := by omega
      rw [show ownO W.heap.size wr u6 (openTo t bits bits.length) = wr.ownsRow W.heap.size 60 36 u6 bits.length ((openTo t bits bits.length).flatMap Og.cells) by unfold ownO; rw [openTo_length]] at hown
      have hres : SlG 36 Og.cells wr wr.heap.size u6 (openTo t bits bits.length) := own_slM hown (fun x hx => by
        obtain ⟨j, hj, rfl⟩ := List.mem_map.1 hx
        have hj := List.mem_range.1 hj
        exact og_len (Q5.out j _ (Q6.out j hj) hj)) (openTo_length t bits bits.length).symm (by rw [openTo_length]; omega)
      have HRES := Lib.hid hres
      clear hres hown
      go_wp2_with fail
      go_ret2
      exact ⟨_, rfl, hB.trans (hBr.mono hB.size), HRES.out⟩
set_option maxRecDepth 100000 in
set_option maxHeartbeats 4000000 in
theorem ropen_any (t : Tn) (x : TnA) (bits : List Int) (v : Value) (w : World) (h : TnS w w.heap.size x t) (hb : SlI w w.heap.size v bits) (h64 : ∀ i, i < t.s.length → (t.s.getD i default).length = 64) :
    Calls Tryd.prog 14 #[.agg (x.cells t).toArray, v] w fun e w' => ∃ v, e = .returned (.tuple #[v, .int .i64 (openE t bits)]) ∧ Below w.heap.size w w' ∧ SlG 36 Og.cells w' w'.heap.size v (openC t bits) := by
  obtain ⟨_, A, c, rfl, _⟩ := id hb
  have hE : openE t bits = if rightB t bits.length then (if bits.all bitB then 0 else 1) else 140 := rfl
  have hC : openC t bits = if openE t bits = 0 then openTo t bits bits.length else [] := rfl
  cases f1 : rightB t bits.length with
  | true =>
    cases f2 : bits.all bitB with
    | true =>
      rw [f1, f2, if_pos rfl, if_pos rfl] at hE
      rw [hC, hE, if_pos rfl]
      exact ropen_main t x bits A c w h hb h64 f1 f2
    | false =>
      rw [f1, f2, if_pos rfl, if_neg (by decide)] at hE
      rw [hC, hE, if_neg (by decide)]
      have hB := below_alloc' w (.cells (x.cells t).toArray 26)
      have r0 := Row.new w 26 (x.cells t)
      have h2 := h.below hB
      have hb2 := hb.below hB
      obtain ⟨W, hW⟩ : ∃ W, w.alloc (.cells (x.cells t).toArray 26) = W := ⟨_, rfl⟩
      replace r0 : Row W w.heap.size 26 (x.cells t) := hW ▸ r0
      rw [hW] at hB h2 hb2
      have q1 := rright_any t x bits.length W (h2.mono hB.size)
      rw [f1] at q1
      have q2 := fun (w' : World) (hbb : Below W.heap.size W w') => rbits_any bits _ w' ((hb2.belowN hbb hB.size).mono (Nat.le_trans hB.size hbb.size))
      rw [f2] at q2
      obtain ⟨al, cl, ar, cr, arl, crl, arr, crr, at_, ct⟩ := x
      unfold TnA.cells at r0 hW q1 ⊢
      simp only at r0 hW q1 ⊢
      replace hW : w.alloc (.cells #[.slice al t.l.length cl, .slice ar t.r.length cr, .slice arl t.rl.length crl, .slice arr t.rr.length crr, .slice at_ t.s.length ct] 26) = W := hW
      obtain ⟨c0, c1, c2, c3, c4⟩ := st5c r0
      have Q1 := Lib.hid q1
      have Q2 := Lib.hid q2
      clear q1 q2 h2 hb2 h hb r0 f1 f2 hE hC
      go_enter Tryd.func14, Tryd.ntmps14
      go_upto_region 1 with fail
      try rw [hW]
      clear hW
      go_wp2_with (first
        | (go_at_call 32; (with_reducible refine Q1.out.mono ?_); rintro e w1 ⟨rfl, hb1⟩)
        | (go_at_call 46; (with_reducible refine (Q2.out _ hb1).mono ?_); rintro e w2 ⟨rfl, hb2⟩; replace hb2 := hb1.trans (hb2.mono hb1.size)))
      go_ret2
      exact ⟨_, rfl, hB.trans (hb2.mono hB.size), SlG.nil_ _ _⟩
  | false =>
    rw [f1, if_neg (by decide)] at hE
    rw [hC, hE, if_neg (by decide)]
    have hB := below_alloc' w (.cells (x.cells t).toArray 26)
    have r0 := Row.new w 26 (x.cells t)
    have h2 := h.below hB
    obtain ⟨W, hW⟩ : ∃ W, w.alloc (.cells (x.cells t).toArray 26) = W := ⟨_, rfl⟩
    replace r0 : Row W w.heap.size 26 (x.cells t) := hW ▸ r0
    rw [hW] at hB h2
    have q1 := rright_any t x bits.length W (h2.mono hB.size)
    rw [f1] at q1
    obtain ⟨al, cl, ar, cr, arl, crl, arr, crr, at_, ct⟩ := x
    unfold TnA.cells at r0 hW q1 ⊢
    simp only at r0 hW q1 ⊢
    replace hW : w.alloc (.cells #[.slice al t.l.length cl, .slice ar t.r.length cr, .slice arl t.rl.length crl, .slice arr t.rr.length crr, .slice at_ t.s.length ct] 26) = W := hW
    obtain ⟨c0, c1, c2, c3, c4⟩ := st5c r0
    have Q1 := Lib.hid q1
    clear q1 h2 h hb r0 f1 hE hC
    go_enter Tryd.func14, Tryd.ntmps14
    go_upto_region 1 with fail
    try rw [hW]
    clear hW
    go_wp2_with (go_at_call 32; (with_reducible refine Q1.out.mono ?_); rintro e w1 ⟨rfl, hb1⟩)
    go_ret2
    exact ⟨_, rfl, hB.trans (hb1.mono hB.size), SlG.nil_ _ _⟩
set_option maxRecDepth 100000 in
set_option maxHeartbeats 4000000 in
theorem rtrace_any (t : Tn) (x : TnA) (w : World) (h : TnS w w.heap.size x t) :
    Calls Tryd.prog 16 #[.agg (x.cells t).toArray] w fun e w' => ∃ v, e = .returned (.tuple #[v, .int .i64 (traceE t)]) ∧ Below w.heap.size w w' ∧ SlI w' w'.heap.size v (traceC t) := by
  have hB := below_alloc' w (.cells (x.cells t).toArray 26)
  have r0 := Row.new w 26 (x.cells t)
  have h2 := h.below hB
  obtain ⟨W, hW⟩ : ∃ W, w.alloc (.cells (x.cells t).toArray 26) = W := ⟨_, rfl⟩
  replace r0 : Row W w.heap.size 26 (x.cells t) := hW ▸ r0
  rw [hW] at hB h2
  have q1 := rright_any t x t.l.length W (h2.mono hB.size)
  obtain ⟨al, cl, ar, cr, arl, crl, arr, crr, at_, ct⟩ := x
  unfold TnA.cells at r0 hW q1 ⊢
  simp only at r0 hW q1 ⊢
  replace hW : w.alloc (.cells #[.slice al t.l.length cl, .slice ar t.r.length cr, .slice arl t.rl.length crl, .slice arr t.rr.length crr, .slice at_ t.s.length ct] 26) = W := hW
  obtain ⟨c0, c1, c2, c3, c4⟩ := st5c r0
  have hlt := r0.lt
  have htE : traceE t = if rightB t t.l.length then 0 else 140 := rfl
  have htC : traceC t = if rightB t t.l.length then goTo t.l t.r else [] := rfl
  cases hr : rightB t t.l.length with
  | false =>
    rw [hr] at q1
    rw [hr, if_neg (by decide)] at htE htC
    rw [htE, htC]
    have Q1 := Lib.hid q1
    clear q1 hr h2 h r0 htE htC
    go_enter Tryd.func16, Tryd.ntmps16
    go_upto_region 1 with fail
    try rw [hW]
    clear hW
    go_wp2_with (go_at_call 32; (with_reducible refine Q1.out.mono ?_); rintro e w1 ⟨rfl, hb⟩)
    go_ret2
    exact ⟨_, rfl, hB.trans (hb.mono hB.size), SlG.nil_ _ _⟩
  | true =>
    rw [hr] at q1
    rw [hr, if_pos rfl] at htE htC
    rw [htE, htC]
    obtain ⟨f1, f2, f3, f4, f5, f6, f7, f8⟩ := rightB_facts hr
    have Q1 := Lib.hid q1
    have H2 := Lib.hid h2
    have HP := Lib.hid f7
    have F2 := Lib.hid f2
    clear q1 hr h r0 htE htC h2 f1 f2 f3 f4 f5 f7 f8
    go_enter Tryd.func16, Tryd.ntmps16
    go_upto_region 1 with fail
    try rw [hW]
    clear hW
    obtain ⟨Z, hZ⟩ : ∃ Z, (List.replicate t.l.length (Value.int .i64 0)).toArray = Z := ⟨_, rfl⟩
    have hmk := fun w => make_ints t.l.length (by omega) w
    rw [hZ] at hmk
    go_upto_region 4 with (go_at_call 32; (with_reducible refine Q1.out.mono ?_); rintro e w1 ⟨rfl, hb⟩; have g0 : w1.cell? ⟨w.heap.size, 0, none⟩ = _ := (hb.cell (p := ⟨w.heap.size, 0, none⟩) hlt).trans c0)
    have hg : Row (w1.alloc (.cells Z 3)) w1.heap.size 3 ((layTo t.l.length 0 t.l (fun j => t.r.getD j default) 0).map (Value.int .i64)) := by
      rw [layTo_zero, List.map_replicate, ← hZ]
      exact Row.new w1 _ _
    have hb1 := hb.alloc hb.size (.cells Z 3)
    have hgz := hb.size
    have g0' : (w1.alloc (.cells Z 3)).cell? ⟨w.heap.size, 0, none⟩ = _ := (hb1.cell (p := ⟨w.heap.size, 0, none⟩) hlt).trans c0
    generalize w1.alloc (.cells Z 3) = W1 at *
    generalize w1.heap.size = g at *
    clear hmk hZ g0 c2 c3 c4 hb
    go_wp2_with fail
    go_loopg [5] t.l.length (fun gh iv wr => ∃ k : Nat, iv = .int .i64 k ∧ k + gh = t.l.length ∧ Below W.heap.size W wr ∧ Row wr g 3 ((layTo t.l.length 0 t.l (fun j => t.r.getD j default) k).map (Value.int .i64)))
    case atStart => exact ⟨0, rfl, by omega, hb1, hg⟩
    case round =>
      clear hb1 hg g0'
      obtain ⟨k, rfl, hkg, hBr, hR⟩ := hrel
      have m0 : wr.cell? ⟨w.heap.size, 0, none⟩ = _ := (hBr.cell (p := ⟨w.heap.size, 0, none⟩) hlt).trans c0
      by_cases hk : k < t.l.length
      · obtain ⟨b0, o0, ha0, hb0, e0⟩ := sl_at (H2.out.l.belowN hBr hB.size) hk
        obtain ⟨b1, o1, ha1, hb1, e1⟩ := sl_at (H2.out.r.belowN hBr hB.size) (j := k) (by rw [F2.out]; exact hk)
        simp only at ha0 ha1
        subst ha0 ha1
        have d0 := e0 0 (by omega)
        have d1 := e1 0 (by omega)
        have hat := permB_at HP.out hk
        have hsu := layTo_succ t.l.length 0 t.l (fun j => t.r.getD j default) k
        have hln := layTo_length t.l.length (0 : Int) t.l (fun j => t.r.getD j default) k
        obtain ⟨p, hp⟩ : ∃ p : Nat, t.l.getD k default = p := ⟨(t.l.getD k default).toNat, by omega⟩
        obtain ⟨q, hq⟩ : ∃ q, t.r.getD k default = q := ⟨_, rfl⟩
        rw [hp] at hat hsu
        simp only [hq, Int.toNat_natCast] at hsu
        simp only [encI, hp, hq, List.getD_cons_zero, Nat.add_zero, Nat.mul_one] at d0 d1
        have m1 : wr.cell? ⟨w.heap.size, 1, none⟩ = _ := (hBr.cell (p := ⟨w.heap.size, 1, none⟩) hlt).trans c1
        have s1 : (0 : Int) ≤ k := by omega
        have s2 : (k : Int) < t.l.length := by omega
        have s3 : (k : Int) < t.r.length := by rw [F2.out]; exact s2
        obtain ⟨s4, s5⟩ := hat
        have s6 : p < t.l.length := by omega
        have hold : ∃ u, wr.cell? ⟨g, p, none⟩ = some u := ⟨_, by rw [hR.cell, List.getElem?_eq_getElem (by rw [List.length_map, hln]; exact s6)]⟩
        obtain ⟨u, hold⟩ := hold
        have hfz := hR.frozen p
        have fin : Below W.heap.size W (wr.drew.setCell ⟨g, p, none⟩ (.int .i64 q)) ∧ Row (wr.drew.setCell ⟨g, p, none⟩ (.int .i64 q)) g 3 ((layTo t.l.length 0 t.l (fun j => t.r.getD j default) (k + 1)).map (Value.int .i64)) := by
          refine ⟨hBr.drew.setCell (p := ⟨g, p, none⟩) hgz _, ?_⟩
          have hR' : Row wr.drew g 3 _ := hR
          have := hR'.store p (.int .i64 q)
          rw [hsu, List.map_set]
          exact this
        have FIN := Lib.hid fin
        clear fin hR hsu hln e0 e1 hp hq
        go_wp2_with fail
        go_region
        go_wp2_with fail
        go_roundg (gk - 1)
        case measure => omega
        case rel => exact ⟨k + 1, by first | rfl | go_num, by omega, FIN.out⟩
      · obtain rfl : k = t.l.length := by omega
        have hres : SlI wr wr.heap.size (.slice (some ⟨g, 0, none⟩) t.l.length t.l.length) (goTo t.l t.r) := by
          have := row_ints (c := t.l.length) hR (by rw [layTo_length]; omega) hR.lt
          rwa [layTo_length] at this
        have HRES := Lib.hid hres
        clear hres hR
        go_wp2_with fail
        go_ret2
        exact ⟨_, rfl, hB.trans (hBr.mono hB.size), HRES.out⟩
end Go.Proofs.YthboebhghaabnaaDoor

set_option linter.unusedSimpArgs false
set_option linter.unusedVariables false
namespace Go.Proofs.YthboebhghaabnaaDoor
open Go.RowKit Fk Sha
/-! ShuffleOpenSpec. -/
theorem openC_ok {t : Tn} {bits : List Int} (h64 : ∀ i, i < t.s.length → (t.s.getD i default).length = 64) : ∀ i, i < (openC t bits).length → ((openC t bits).getD i default).s.length = 32 := fun i hi => by
  have hE : openE t bits = if rightB t bits.length then (if bits.all bitB then 0 else 1) else 140 := rfl
  have hC : openC t bits = if openE t bits = 0 then openTo t bits bits.length else [] := rfl
  by_cases h0 : openE t bits = 0
  · rw [if_pos h0] at hC
    rw [hC] at hi ⊢
    rw [openTo_length] at hi
    have hr : rightB t bits.length = true := by
      cases e : rightB t bits.length with
      | true => rfl
      | false => rw [e, if_neg (by decide)] at hE; rw [hE] at h0; cases h0
    have hb : bits.all bitB = true := by
      cases e : bits.all bitB with
      | true => rfl
      | false => rw [hr, if_pos rfl, e, if_neg (by decide)] at hE; rw [hE] at h0; cases h0
    obtain ⟨f1, f2, f3, f4, f5, f6, f7, f8⟩ := rightB_facts hr
    unfold openTo
    rw [map_range_get _ hi]
    rcases bit_at hb hi with e | e <;> rw [e]
    · exact ogL_ok (by omega) h64
    · exact ogR_ok (by omega) h64
  · rw [if_neg h0] at hC
    rw [hC] at hi
    exact absurd hi (by simp)
set_option maxRecDepth 100000 in
set_option maxHeartbeats 8000000 in
theorem shuffleOpenSpec_walk (t : Tn) (x : TnA) (bits : List Int) (v0 : Value) (w : World) (hT0 : Tab w) (hz0 : 1 < w.heap.size ∧ 0 < w.heap.size)
    (ht : TnS w w.heap.size x t) (hb : SlI w w.heap.size v0 bits) (hwt : wfTn t) (_ : ∀ i, i < bits.length → wfI (bits.getD i default)) :
    Calls Tryd.prog 3 #[.agg (x.cells t).toArray, v0] w fun e w' => e = .returned (.bool true) ∧ Below w.heap.size w w' := by
  have HT := Lib.hid (show TabS w from ⟨hT0, hz0⟩)
  have SN := Lib.hid (fun W (hb : Below w.heap.size w W) => sane14_any W (HT.out.below hb))
  have F1 := Lib.hid (fun W => fewturn_any t x W)
  have F2 := Lib.hid (fun A c W => fewopened_any bits.length 0 A none c 0 W)
  have hB := below_alloc' w (.cells (x.cells t).toArray 26)
  have r0 := Row.new w 26 (x.cells t)
  obtain ⟨W, hW⟩ : ∃ W, w.alloc (.cells (x.cells t).toArray 26) = W := ⟨_, rfl⟩
  replace r0 : Row W w.heap.size 26 (x.cells t) := hW ▸ r0
  replace hB : Below w.heap.size w W := hW ▸ hB
  have k0 : Kp fun W' => (Below w.heap.size w W' ∧ Row W' w.heap.size 26 (x.cells t)) ∧ TnS W' W'.heap.size x t ∧ SlI W' W'.heap.size v0 bits := by intro W W' hb ⟨⟨a, b⟩, c, d⟩; exact ⟨⟨Kp.from w hb a, Kp.row hb b⟩, Kp.tn hb c, Kp.sl hb d⟩
  have h0 : (fun W' => (Below w.heap.size w W' ∧ Row W' w.heap.size 26 (x.cells t)) ∧ TnS W' W'.heap.size x t ∧ SlI W' W'.heap.size v0 bits) W := ⟨⟨hB, r0⟩, (ht.below hB).mono hB.size, (hb.below hB).mono hB.size⟩
  have O1 := Lib.hid (fun W h1 h2 => open_any t x bits v0 W h1 h2 hwt.s)
  have O2 := Lib.hid (fun W h1 h2 => ropen_any t x bits v0 W h1 h2 hwt.s)
  have T1 := Lib.hid (fun W h1 => trace_any t x W h1)
  have T2 := Lib.hid (fun W h1 => rtrace_any t x W h1)
  have S1 := Lib.hid (fun v v2 W h h2 => sameopened_any (openC t bits) v v2 W _ (Nat.le_refl _) (openC_ok hwt.s) h h2)
  have S2 := Lib.hid (fun v v2 W h h2 => sameints14_any (traceC t) v v2 W _ (Nat.le_refl _) h h2)
  obtain ⟨OC, hOC⟩ : ∃ OC, openC t bits = OC := ⟨_, rfl⟩
  obtain ⟨OE, hOE⟩ : ∃ OE, openE t bits = OE := ⟨_, rfl⟩
  obtain ⟨TC, hTC⟩ : ∃ TC, traceC t = TC := ⟨_, rfl⟩
  obtain ⟨TE, hTE⟩ : ∃ TE, traceE t = TE := ⟨_, rfl⟩
  rw [hOC, hOE] at O1 O2
  rw [hTC, hTE] at T1 T2
  rw [hOC] at S1
  rw [hTC] at S2
  obtain ⟨_, A0, c0, rfl, _⟩ := hb
  obtain ⟨al, cl, ar, cr, arl, crl, arr, crr, at_, ct⟩ := x
  have hx : (TnA.cells ⟨al, cl, ar, cr, arl, crl, arr, crr, at_, ct⟩ t) = [.slice al t.l.length cl, .slice ar t.r.length cr, .slice arl t.rl.length crl, .slice arr t.rr.length crr, .slice at_ t.s.length ct] := rfl
  rw [hx] at F1 h0 k0 hW O1 O2 T1 T2 ⊢
  replace hW : w.alloc (.cells #[.slice al t.l.length cl, .slice ar t.r.length cr, .slice arl t.rl.length crl, .slice arr t.rr.length crr, .slice at_ t.s.length ct] 26) = W := hW
  clear hT0 hz0 ht hwt hB r0 hx hOC hOE hTC hTE
  cases f1 : fewTn t with
  | false =>
    rw [f1] at F1
    go_enter Tryd.func3, Tryd.ntmps3
    go_upto_region 1 with fail
    try rw [hW]
    clear hW
    go_wp2_with (first
      | (go_at_call 10; (with_reducible refine (SN.out _ h0.1.1).mono ?_); rintro e w1 ⟨rfl, hb⟩; replace h0 := k0 hb h0; clear hb; obtain ⟨e0, e1, e2, e3, e4⟩ := st5c h0.1.2)
      | (go_at_call 11; (with_reducible refine (F1.out _).mono ?_); rintro e w2 ⟨rfl, hb⟩; replace h0 := k0 hb h0; clear hb; obtain ⟨e0, e1, e2, e3, e4⟩ := st5c h0.1.2))
    go_ret
    exact ⟨rfl, h0.1.1⟩
  | true =>
  rw [f1] at F1
  cases f2 : fewOg bits.length 0 with
  | false =>
    rw [f2] at F2
    go_enter Tryd.func3, Tryd.ntmps3
    go_upto_region 1 with fail
    try rw [hW]
    clear hW
    go_wp2_with (first
      | (go_at_call 10; (with_reducible refine (SN.out _ h0.1.1).mono ?_); rintro e w1 ⟨rfl, hb⟩; replace h0 := k0 hb h0; clear hb; obtain ⟨e0, e1, e2, e3, e4⟩ := st5c h0.1.2)
      | (go_at_call 11; (with_reducible refine (F1.out _).mono ?_); rintro e w2 ⟨rfl, hb⟩; replace h0 := k0 hb h0; clear hb; obtain ⟨e0, e1, e2, e3, e4⟩ := st5c h0.1.2)
      | (go_at_call 12; (with_reducible refine (F2.out _ _ _).mono ?_); rintro e w2 ⟨rfl, hb⟩; replace h0 := k0 hb h0; clear hb; obtain ⟨e0, e1, e2, e3, e4⟩ := st5c h0.1.2))
    go_ret
    exact ⟨rfl, h0.1.1⟩
  | true =>
  rw [f2] at F2
  clear f1 f2
  go_enter Tryd.func3, Tryd.ntmps3
  go_upto_region 1 with fail
  try rw [hW]
  clear hW
  go_wp2_with (first
    | (go_at_call 10; (with_reducible refine (SN.out _ h0.1.1).mono ?_); rintro e w1 ⟨rfl, hb⟩; replace h0 := k0 hb h0; clear hb; obtain ⟨e0, e1, e2, e3, e4⟩ := st5c h0.1.2)
    | (go_at_call 11; (with_reducible refine (F1.out _).mono ?_); rintro e w2 ⟨rfl, hb⟩; replace h0 := k0 hb h0; clear hb; obtain ⟨e0, e1, e2, e3, e4⟩ := st5c h0.1.2)
    | (go_at_call 12; (with_reducible refine (F2.out _ _ _).mono ?_); rintro e w2 ⟨rfl, hb⟩; replace h0 := k0 hb h0; clear hb; obtain ⟨e0, e1, e2, e3, e4⟩ := st5c h0.1.2)
    | (go_at_call 13; (with_reducible refine (O1.out _ h0.2.1 h0.2.2).mono ?_); rintro e w3 ⟨va, rfl, hb, ha⟩; replace h0 := k0 hb h0; clear hb; obtain ⟨e0, e1, e2, e3, e4⟩ := st5c h0.1.2)
    | (go_at_call 14; (with_reducible refine (O2.out _ h0.2.1 h0.2.2).mono ?_); rintro e w4 ⟨vb, rfl, hb, hvb⟩; replace h0 := k0 hb h0; replace ha := (ha.below hb).mono hb.size; clear hb; obtain ⟨e0, e1, e2, e3, e4⟩ := st5c h0.1.2)
    | (go_at_call 15; (with_reducible refine (T1.out _ h0.2.1).mono ?_); rintro e w5 ⟨vc, rfl, hb, hc⟩; replace h0 := k0 hb h0; replace ha := (ha.below hb).mono hb.size; replace hvb := (hvb.below hb).mono hb.size; clear hb; obtain ⟨e0, e1, e2, e3, e4⟩ := st5c h0.1.2)
    | (go_at_call 16; (with_reducible refine (T2.out _ h0.2.1).mono ?_); rintro e w6 ⟨vd, rfl, hb, hd⟩; replace h0 := k0 hb h0; replace ha := (ha.below hb).mono hb.size; replace hvb := (hvb.below hb).mono hb.size; replace hc := (hc.below hb).mono hb.size; clear hb; obtain ⟨e0, e1, e2, e3, e4⟩ := st5c h0.1.2)
    | (go_at_call 17; (with_reducible refine (S1.out _ _ _ ha hvb).mono ?_); rintro e w7 ⟨rfl, hb⟩; replace h0 := k0 hb h0; replace hc := (hc.below hb).mono hb.size; replace hd := (hd.below hb).mono hb.size; clear hb)
    | (go_at_call 18; (with_reducible refine (S2.out _ _ _ hc hd).mono ?_); rintro e w8 ⟨rfl, hb⟩; replace h0 := k0 hb h0; clear hb))
  go_ret
  exact ⟨by first | rfl | simp, h0.1.1⟩
end Go.Proofs.YthboebhghaabnaaDoor
