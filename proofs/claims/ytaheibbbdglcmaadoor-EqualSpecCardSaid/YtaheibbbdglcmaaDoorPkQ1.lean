import Derived.Test.YtaheibbbdglcmaaDoorPkk
set_option linter.unusedSimpArgs false
set_option linter.unusedVariables false
namespace Go.Proofs.YtaheibbbdglcmaaDoor
open Go.RowKit Go.Shelf Fk Sha
/-! EqualSpec: Prove and Check answer as the reference does. -/
set_option maxRecDepth 100000 in
set_option maxHeartbeats 8000000 in
theorem equalSpec_walk (n key a d : Int) (p : Pf) (w : World) (hT0 : Tab w) (hz0 : 1 < w.heap.size ∧ 0 < w.heap.size) (_ : (Lit.int .i64 n).wf = true) (_ : (Lit.int .i64 key).wf = true) (_ : (Lit.int .i64 a).wf = true) (_ : (Lit.int .i64 d).wf = true) (_ : True) :
    Calls Tryd.prog 5 #[.int .i64 n, .int .i64 key, .int .i64 a, .int .i64 d, p.val] w fun e w' => e = .returned (.bool true) ∧ Below w.heap.size w w' := by
  have hT : TabOK w := ⟨hT0, hz0⟩
  have sn := fun W (hb : Below w.heap.size w W) => sane12 W (hT.below hb)
  have p1 := fun W (hb : Below w.heap.size w W) => prove_any n a W (hT.below hb)
  have p2 := fun W => rprove_any n a W
  have k1 := fun W (hb : Below w.heap.size w W) => eqcheck_any key a d p W (hT.below hb)
  have k2 := fun W => refcheck12_any key a d p W
  have bq := fun w => runP 9998 (provR n a) (provR n a) w
  obtain ⟨D, hD⟩ : ∃ D, provD n a = D := ⟨_, rfl⟩
  obtain ⟨R, hR⟩ : ∃ R, provR n a = R := ⟨_, rfl⟩
  obtain ⟨E, hE⟩ : ∃ E, provE n a = E := ⟨_, rfl⟩
  obtain ⟨C, hC⟩ : ∃ C, chkB key a d p = C := ⟨_, rfl⟩
  rw [hD, hR, hE] at p1 p2
  rw [hR] at bq
  rw [hC] at k1 k2
  unfold Pf.val at p1 p2 k1 k2 bq ⊢
  generalize p.e = pe at *
  generalize p.s = ps at *
  generalize R.e = re at *
  generalize R.s = rs at *
  replace bq : ∀ w, (Op.equalIn 10000 34 (.agg #[.int .i64 re, .int .i64 rs]) (.agg #[.int .i64 re, .int .i64 rs])).run Tryd.prog w = .ok true w := fun w => by
    have := bq w
    simpa using this
  have SN := Lib.hid sn
  have P1 := Lib.hid p1
  have P2 := Lib.hid p2
  have K1 := Lib.hid k1
  have K2 := Lib.hid k2
  clear sn p1 p2 k1 k2 hD hR hE hC hT hT0 hz0
  have r0 := Row.new w 34 [.int .i64 pe, .int .i64 ps]
  have hB := below_alloc' w (.cells #[.int .i64 pe, .int .i64 ps] 34)
  obtain ⟨W, hW⟩ : ∃ W, w.alloc (.cells #[.int .i64 pe, .int .i64 ps] 34) = W := ⟨_, rfl⟩
  replace r0 : Row W w.heap.size 34 [.int .i64 pe, .int .i64 ps] := hW ▸ r0
  rw [hW] at hB
  go_enter Tryd.func5, Tryd.ntmps5
  go_upto_region 1 with fail
  clear hW
  go_upto_region 4 with (first
    | (go_at_call 18; (with_reducible refine (SN.out _ hB).mono ?_); rintro e w1 ⟨rfl, hb⟩; replace r0 := r0.below hb r0.lt; replace hB := hB.trans (hb.mono hB.size); clear hb)
    | (go_at_call 19; (with_reducible refine (P1.out _ hB).mono ?_); rintro e w2 ⟨rfl, hb⟩; replace r0 := r0.below hb r0.lt; replace hB := hB.trans (hb.mono hB.size); clear hb))
  have r1 := Row.new w2 34 [.int .i64 re, .int .i64 rs]
  replace r0 := r0.alloc (.cells #[.int .i64 re, .int .i64 rs] 34)
  replace hB := hB.alloc hB.size (.cells #[.int .i64 re, .int .i64 rs] 34)
  obtain ⟨W2, hW2⟩ : ∃ W, w2.alloc (.cells #[.int .i64 re, .int .i64 rs] 34) = W := ⟨_, rfl⟩
  replace r1 : Row W2 w2.heap.size 34 [.int .i64 re, .int .i64 rs] := hW2 ▸ r1
  rw [hW2] at hB r0 ⊢
  clear hW2
  generalize w2.heap.size = g1 at *
  go_upto_region 5 with (go_at_call 20; (with_reducible refine (P2.out _).mono ?_); rintro e w3 ⟨rfl, hb⟩; replace r0 := r0.below hb r0.lt; replace r1 := r1.below hb r1.lt; replace hB := hB.trans (hb.mono hB.size); clear hb)
  have r2 := Row.new w3 34 [.int .i64 re, .int .i64 rs]
  replace r0 := r0.alloc (.cells #[.int .i64 re, .int .i64 rs] 34)
  replace r1 := r1.alloc (.cells #[.int .i64 re, .int .i64 rs] 34)
  replace hB := hB.alloc hB.size (.cells #[.int .i64 re, .int .i64 rs] 34)
  obtain ⟨W3, hW3⟩ : ∃ W, w3.alloc (.cells #[.int .i64 re, .int .i64 rs] 34) = W := ⟨_, rfl⟩
  replace r2 : Row W3 w3.heap.size 34 [.int .i64 re, .int .i64 rs] := hW3 ▸ r2
  rw [hW3] at hB r0 r1 ⊢
  clear hW3
  generalize w3.heap.size = g2 at *
  have hs : ∀ W', Below W3.heap.size W3 W' → W'.cell? ⟨w.heap.size, 0, none⟩ = some (.int .i64 pe) ∧ W'.cell? ⟨w.heap.size, 1, none⟩ = some (.int .i64 ps) ∧ W'.cell? ⟨g1, 0, none⟩ = some (.int .i64 re) ∧ W'.cell? ⟨g1, 1, none⟩ = some (.int .i64 rs) ∧ W'.cell? ⟨g2, 0, none⟩ = some (.int .i64 re) ∧ W'.cell? ⟨g2, 1, none⟩ = some (.int .i64 rs) := fun W' h => by
    obtain ⟨a0, a1⟩ := st2 (r0.below h r0.lt)
    obtain ⟨a2, a3⟩ := st2 (r1.below h r1.lt)
    obtain ⟨a4, a5⟩ := st2 (r2.below h r2.lt)
    exact ⟨a0, a1, a2, a3, a4, a5⟩
  have HS := Lib.hid hs
  have HB := Lib.hid hB
  clear hs hB r0 r1 r2
  refine wp_region_ord 24 [(1, 0), (1, 1), (1, 2), (1, 3), (1, 4), (1, 5), (1, 6), (1, 7), (1, 8), (1, 9), (1, 10), (1, 11), (1, 12), (1, 13), (1, 14), (1, 15), (1, 16), (1, 17), (1, 19), (1, 20), (1, 21), (1, 22), (2, 18), (2, 23)] (fun W' => W'.cell? ⟨w.heap.size, 0, none⟩ = some (.int .i64 pe) ∧ W'.cell? ⟨w.heap.size, 1, none⟩ = some (.int .i64 ps) ∧ W'.cell? ⟨g1, 0, none⟩ = some (.int .i64 re) ∧ W'.cell? ⟨g1, 1, none⟩ = some (.int .i64 rs) ∧ W'.cell? ⟨g2, 0, none⟩ = some (.int .i64 re) ∧ W'.cell? ⟨g2, 1, none⟩ = some (.int .i64 rs)) (by kernel_rfl) (by kernel_rfl) (fun _ _ d _ _ h => by cases d <;> exact h) (HS.out _ (Below.refl _ _).drew) ?_
  have hD := (Below.refl W3.heap.size W3).drew
  generalize W3.drew = W4 at hD ⊢
  iterate 22
    refine wpOrd_take (v := ?_) rfl (by go_simp) (fun w hSw => ?_) ?_
    rotate_left 1
    · obtain ⟨k0, k1, k2, k3, k4, k5⟩ := hSw
      go_simp
      with_reducible rfl
    simp only [Act.put, List.setIfInBounds_toArray, List.set_cons_zero, List.set_cons_succ]
  refine wpOrd_step rfl (fun K hK => ⟨by go_simp, ?_⟩)
  go_simp
  go_at_call 21
  refine (K1.out _ (HB.out.trans (hD.mono HB.out.size))).mono ?_
  rintro e w5 ⟨rfl, hb⟩
  replace hD := hD.trans (hb.mono hD.size)
  refine hK _ _ (HS.out _ hD) ?_
  clear hK K hb
  try simp only [Act.put, List.setIfInBounds_toArray, List.set_cons_zero, List.set_cons_succ]
  refine wpOrd_step rfl (fun K hK => ⟨by go_simp, ?_⟩)
  go_simp
  go_at_call 22
  refine (K2.out _).mono ?_
  rintro e w6 ⟨rfl, hb⟩
  replace hD := hD.trans (hb.mono hD.size)
  refine hK _ _ (HS.out _ hD) ?_
  clear hK K hb
  try simp only [Act.put, List.setIfInBounds_toArray, List.set_cons_zero, List.set_cons_succ]
  refine wpOrd_nil ?_
  simp only [List.drop_succ_cons, List.drop_zero]
  go_wp2_with fail
  all_goals
    go_ret
    exact ⟨by simp, HB.out.trans (hD.mono HB.out.size)⟩
end Go.Proofs.YtaheibbbdglcmaaDoor
