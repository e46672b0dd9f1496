import Derived.Test.YthboebhghaabnaaDoorPsl
set_option linter.unusedSimpArgs false
set_option linter.unusedVariables false
namespace Go.Proofs.YthboebhghaabnaaDoor
open Go.RowKit Fk Sha
/-! Two openings with one encoding are one. -/
theorem ofNat8_inj {a b : Nat} (ha : a < 256) (hb : b < 256) (h : BitVec.ofNat 8 a = BitVec.ofNat 8 b) : a = b := by
  have := congrArg BitVec.toNat h
  rw [BitVec.toNat_ofNat, BitVec.toNat_ofNat, Nat.mod_eq_of_lt (by omega), Nat.mod_eq_of_lt (by omega)] at this
  exact this
theorem numeral_inj : ∀ (u v : Nat) (x y : List B), numeral u ++ x = numeral v ++ y → u = v ∧ x = y := by
  intro u
  induction u using Nat.strongRecOn with
  | _ u ih =>
    intro v x y h
    by_cases hu : u < 128
    · by_cases hv : v < 128
      · rw [numeral_small hu, numeral_small hv] at h
        simp only [List.cons_append, List.nil_append, List.cons.injEq] at h
        exact ⟨ofNat8_inj (by omega) (by omega) h.1, h.2⟩
      · rw [numeral_small hu, numeral_big hv] at h
        simp only [List.cons_append, List.nil_append, List.cons.injEq] at h
        have := ofNat8_inj (by omega) (by omega) h.1
        omega
    · by_cases hv : v < 128
      · rw [numeral_big hu, numeral_small hv] at h
        simp only [List.cons_append, List.nil_append, List.cons.injEq] at h
        have := ofNat8_inj (by omega) (by omega) h.1
        omega
      · rw [numeral_big hu, numeral_big hv] at h
        simp only [List.cons_append, List.cons.injEq] at h
        have h1 := ofNat8_inj (by omega) (by omega) h.1
        obtain ⟨h2, h3⟩ := ih (u / 128) (by omega) (v / 128) x y h.2
        exact ⟨by omega, h3⟩
theorem zz_inj {a b : Int} (h : zz a = zz b) : a = b := by
  unfold zz at h
  split at h <;> split at h <;> omega
theorem int_inj {a b : Int} {x y : List B} (h : bytesVt (.int a) ++ x = bytesVt (.int b) ++ y) : a = b ∧ x = y := by
  have h' : numeral (zz a) ++ x = numeral (zz b) ++ y := by
    unfold bytesVt at h
    simpa using h
  obtain ⟨h1, h2⟩ := numeral_inj _ _ _ _ h'
  exact ⟨zz_inj h1, h2⟩
theorem salt_back (s : List B) : (saltS s).data.toList.map (fun c => BitVec.ofNat 8 c.toNat) = s := by
  unfold saltS u8s
  simp only [List.map_map]
  conv => rhs; rw [← List.map_id s]
  refine List.map_congr_left fun c _ => ?_
  have : c.toNat < 256 := c.isLt
  show BitVec.ofNat 8 (UInt8.ofNat c.toNat).toNat = c
  rw [show (UInt8.ofNat c.toNat).toNat = c.toNat by simp [UInt8.ofNat, Nat.mod_eq_of_lt this]]
  exact BitVec.eq_of_toNat_eq (by rw [BitVec.toNat_ofNat, Nat.mod_eq_of_lt this])
theorem enc_inj {o p : Og} (h : encT (vtO o) = encT (vtO p)) : o = p := by
  unfold encT vtO at h
  simp only [List.flatMap_cons, List.flatMap_nil, List.append_nil, List.length_cons, List.length_nil] at h
  have h' := List.append_cancel_left h
  obtain ⟨h1, h'⟩ := int_inj h'
  obtain ⟨h2, h'⟩ := int_inj h'
  obtain ⟨h3, h'⟩ := int_inj h'
  obtain ⟨h4, h'⟩ := int_inj h'
  unfold bytesVt at h'
  simp only [List.cons.injEq, true_and] at h'
  obtain ⟨_, h5⟩ := numeral_inj _ _ _ _ h'
  rw [salt_back, salt_back] at h5
  obtain ⟨oa, ⟨op, oq, orr⟩, os⟩ := o
  obtain ⟨pa, ⟨pp, pq, pr⟩, ps⟩ := p
  simp only at h1 h2 h3 h4 h5
  rw [h1, h2, h3, h4, h5]
end Go.Proofs.YthboebhghaabnaaDoor

set_option linter.unusedSimpArgs false
set_option linter.unusedVariables false
namespace Go.Proofs.YthboebhghaabnaaDoor
open Go.RowKit Fk Sha
/-! The encoding of an opening, as the law makes it. -/
set_option maxRecDepth 100000 in
theorem text1_any (n : Int) (w : World) : Calls Tryd.prog 57 #[.int .i64 n] w fun e w' => e = .returned (.agg #[.int .i64 1, .int .i64 n, .string ⟨#[]⟩, .slice none 0 0]) ∧ Below w.heap.size w w' := by
  have hB := fun (o : Obj) => below_alloc' w o
  go_enter Tryd.func57, Tryd.ntmps57
  go_wp2_with fail
  exact bodyPost_ret (v := .agg #[.int .i64 1, .int .i64 n, .string ⟨#[]⟩, .slice none 0 0]) (by simp [results, Tryd.results57, go_sem]) rfl ⟨rfl, hB _⟩
set_option maxRecDepth 100000 in
set_option maxHeartbeats 4000000 in
theorem text_any (o : Og) (ho : o.ok) (w : World) : Calls Tryd.prog 28 #[.agg o.cells.toArray] w fun e w' => ∃ v, e = .returned v ∧ ownB w' v (encT (vtO o)) ∧ Below w.heap.size w w' := by
  have hB := below_alloc' w (.cells o.cells.toArray 60)
  have r0 := Row.new w 60 o.cells
  have hok := okT_vtO ho
  have hen : ∀ (A : Option Addr) (c : Nat) (W : World) (h : SlT W W.heap.size (.slice A 5 c) (vtO o)), Calls Tryd.prog 58 #[.agg #[.int .i64 3, .int .i64 0, .string ⟨#[]⟩, .slice A 5 c]] W fun e w' => ∃ v, e = .returned (.tuple #[v, .int .i64 0]) ∧ ownB w' v (encT (vtO o)) ∧ Below W.heap.size W w' := fun A c W h => encodeT_list (vtO o) A c W h hok (by simp [vtO]) (by simp [vtO])
  have hsl : ∀ W : World, SlT (W.alloc (.cells ((vtO o).flatMap encVt).toArray 112)) (W.alloc (.cells ((vtO o).flatMap encVt).toArray 112)).heap.size (.slice (some ⟨W.heap.size, 0, none⟩) 5 5) (vtO o) := fun W => Row.sl (m := 4) (enc := encVt) (c := 5) (l := vtO o) (Row.new W 112 ((vtO o).flatMap encVt)) encVt_length (by simp [vtO]) (by simp)
  obtain ⟨W, hW⟩ : ∃ W, w.alloc (.cells o.cells.toArray 60) = W := ⟨_, rfl⟩
  replace r0 : Row W w.heap.size 60 o.cells := hW ▸ r0
  rw [hW] at hB
  have hvt : (vtO o).flatMap encVt = [.int .i64 1, .int .i64 o.a, .string ⟨#[]⟩, .slice none 0 0, .int .i64 1, .int .i64 o.r.p, .string ⟨#[]⟩, .slice none 0 0, .int .i64 1, .int .i64 o.r.q, .string ⟨#[]⟩, .slice none 0 0, .int .i64 1, .int .i64 o.r.r, .string ⟨#[]⟩, .slice none 0 0, .int .i64 2, .int .i64 0, .string (saltS o.s), .slice none 0 0] := rfl
  rw [hvt] at hsl
  have hCS := fun (W' : World) (h : Row W' w.heap.size 60 o.cells) => conv_salt h ho.2
  have hcc : ∀ W', Row W' w.heap.size 60 o.cells → W'.cell? ⟨w.heap.size, 0, none⟩ = some (.int .i64 o.a) ∧ W'.cell? ⟨w.heap.size, 1, none⟩ = some (.int .i64 o.r.p) ∧ W'.cell? ⟨w.heap.size, 2, none⟩ = some (.int .i64 o.r.q) ∧ W'.cell? ⟨w.heap.size, 3, none⟩ = some (.int .i64 o.r.r) := fun W' h => ⟨h.cell 0, h.cell 1, h.cell 2, h.cell 3⟩
  obtain ⟨S, hS⟩ : ∃ S, saltS o.s = S := ⟨_, rfl⟩
  rw [hS] at hsl hCS
  obtain ⟨VT, hVT⟩ : ∃ VT, vtO o = VT := ⟨_, rfl⟩
  rw [hVT] at hsl hen ⊢
  obtain ⟨CL, hCL⟩ : ∃ CL, o.cells = CL := ⟨_, rfl⟩
  rw [hCL] at hcc hCS r0 hW ⊢
  generalize o.a = a at *
  generalize o.r.p = b at *
  generalize o.r.q = c at *
  generalize o.r.r = d at *
  have HCS := Lib.hid hCS
  have HCC := Lib.hid hcc
  have HEN := Lib.hid hen
  have HSL := Lib.hid hsl
  clear hCS hcc hen hsl hS hVT hCL hok ho hvt
  go_enter Tryd.func28, Tryd.ntmps28
  go_upto_region 2 with fail
  try rw [hW]
  clear hW
  have hlt := r0.lt
  have hz := hB.size
  refine wp_region_tree 30 (.take 0 (.take 1 (.take 2 (.take 4 (.take 5 (.take 6 (.take 7 (.take 9 (.take 10 (.take 11 (.take 12 (.take 14 (.take 15 (.take 16 (.take 17 (.take 19 (.take 20 (.take 21 (.take 22 (.one 3 (.one 8 (.one 13 (.one 18 (.one 23 (.take 24 (.one 25 (.take 26 (.take 27 (.take 28 (.one 29 .done)))))))))))))))))))))))))))))) (fun W' => Below W.heap.size W W') (by kernel_rfl) (by kernel_rfl) (fun _ _ d _ _ h => by cases d <;> exact h) (Below.refl _ _).drew ?_
  have hb : Below W.heap.size W W.drew := (Below.refl _ _).drew
  generalize W.drew = V0 at *
  refine wpTree_take (v := ?_) rfl (by kernel_rfl) (fun w hSw => ?_) ?_
  rotate_left 1
  · obtain ⟨e0, e1, e2, e3⟩ := HCC.out _ (r0.below hSw hlt)
    go_simp
    with_reducible rfl
  simp only [Act.put, List.getElem_toArray, List.getElem_cons_succ, List.getElem_cons_zero, List.setIfInBounds_toArray, List.set_cons_zero, List.set_cons_succ]
  refine wpTree_take (v := ?_) rfl (by kernel_rfl) (fun w hSw => ?_) ?_
  rotate_left 1
  · obtain ⟨e0, e1, e2, e3⟩ := HCC.out _ (r0.below hSw hlt)
    go_simp
    with_reducible rfl
  simp only [Act.put, List.getElem_toArray, List.getElem_cons_succ, List.getElem_cons_zero, List.setIfInBounds_toArray, List.set_cons_zero, List.set_cons_succ]
  refine wpTree_take (v := ?_) rfl (by kernel_rfl) (fun w hSw => ?_) ?_
  rotate_left 1
  · obtain ⟨e0, e1, e2, e3⟩ := HCC.out _ (r0.below hSw hlt)
    go_simp
    with_reducible rfl
  simp only [Act.put, List.getElem_toArray, List.getElem_cons_succ, List.getElem_cons_zero, List.setIfInBounds_toArray, List.set_cons_zero, List.set_cons_succ]
  refine wpTree_take (v := ?_) rfl (by kernel_rfl) (fun w hSw => ?_) ?_
  rotate_left 1
  · obtain ⟨e0, e1, e2, e3⟩ := HCC.out _ (r0.below hSw hlt)
    go_simp
    with_reducible rfl
  simp only [Act.put, List.getElem_toArray, List.getElem_cons_succ, List.getElem_cons_zero, List.setIfInBounds_toArray, List.set_cons_zero, List.set_cons_succ]
  refine wpTree_take (v := ?_) rfl (by kernel_rfl) (fun w hSw => ?_) ?_
  rotate_left 1
  · obtain ⟨e0, e1, e2, e3⟩ := HCC.out _ (r0.below hSw hlt)
    go_simp
    with_reducible rfl
  simp only [Act.put, List.getElem_toArray, List.getElem_cons_succ, List.getElem_cons_zero, List.setIfInBounds_toArray, List.set_cons_zero, List.set_cons_succ]
  refine wpTree_take (v := ?_) rfl (by kernel_rfl) (fun w hSw => ?_) ?_
  rotate_left 1
  · obtain ⟨e0, e1, e2, e3⟩ := HCC.out _ (r0.below hSw hlt)
    go_simp
    with_reducible rfl
  simp only [Act.put, List.getElem_toArray, List.getElem_cons_succ, List.getElem_cons_zero, List.setIfInBounds_toArray, List.set_cons_zero, List.set_cons_succ]
  refine wpTree_take (v := ?_) rfl (by kernel_rfl) (fun w hSw => ?_) ?_
  rotate_left 1
  · obtain ⟨e0, e1, e2, e3⟩ := HCC.out _ (r0.below hSw hlt)
    go_simp
    with_reducible rfl
  simp only [Act.put, List.getElem_toArray, List.getElem_cons_succ, List.getElem_cons_zero, List.setIfInBounds_toArray, List.set_cons_zero, List.set_cons_succ]
  refine wpTree_take (v := ?_) rfl (by kernel_rfl) (fun w hSw => ?_) ?_
  rotate_left 1
  · obtain ⟨e0, e1, e2, e3⟩ := HCC.out _ (r0.below hSw hlt)
    go_simp
    with_reducible rfl
  simp only [Act.put, List.getElem_toArray, List.getElem_cons_succ, List.getElem_cons_zero, List.setIfInBounds_toArray, List.set_cons_zero, List.set_cons_succ]
  refine wpTree_take (v := ?_) rfl (by kernel_rfl) (fun w hSw => ?_) ?_
  rotate_left 1
  · obtain ⟨e0, e1, e2, e3⟩ := HCC.out _ (r0.below hSw hlt)
    go_simp
    with_reducible rfl
  simp only [Act.put, List.getElem_toArray, List.getElem_cons_succ, List.getElem_cons_zero, List.setIfInBounds_toArray, List.set_cons_zero, List.set_cons_succ]
  refine wpTree_take (v := ?_) rfl (by kernel_rfl) (fun w hSw => ?_) ?_
  rotate_left 1
  · obtain ⟨e0, e1, e2, e3⟩ := HCC.out _ (r0.below hSw hlt)
    go_simp
    with_reducible rfl
  simp only [Act.put, List.getElem_toArray, List.getElem_cons_succ, List.getElem_cons_zero, List.setIfInBounds_toArray, List.set_cons_zero, List.set_cons_succ]
  refine wpTree_take (v := ?_) rfl (by kernel_rfl) (fun w hSw => ?_) ?_
  rotate_left 1
  · obtain ⟨e0, e1, e2, e3⟩ := HCC.out _ (r0.below hSw hlt)
    go_simp
    with_reducible rfl
  simp only [Act.put, List.getElem_toArray, List.getElem_cons_succ, List.getElem_cons_zero, List.setIfInBounds_toArray, List.set_cons_zero, List.set_cons_succ]
  refine wpTree_take (v := ?_) rfl (by kernel_rfl) (fun w hSw => ?_) ?_
  rotate_left 1
  · obtain ⟨e0, e1, e2, e3⟩ := HCC.out _ (r0.below hSw hlt)
    go_simp
    with_reducible rfl
  simp only [Act.put, List.getElem_toArray, List.getElem_cons_succ, List.getElem_cons_zero, List.setIfInBounds_toArray, List.set_cons_zero, List.set_cons_succ]
  refine wpTree_take (v := ?_) rfl (by kernel_rfl) (fun w hSw => ?_) ?_
  rotate_left 1
  · obtain ⟨e0, e1, e2, e3⟩ := HCC.out _ (r0.below hSw hlt)
    go_simp
    with_reducible rfl
  simp only [Act.put, List.getElem_toArray, List.getElem_cons_succ, List.getElem_cons_zero, List.setIfInBounds_toArray, List.set_cons_zero, List.set_cons_succ]
  refine wpTree_take (v := ?_) rfl (by kernel_rfl) (fun w hSw => ?_) ?_
  rotate_left 1
  · obtain ⟨e0, e1, e2, e3⟩ := HCC.out _ (r0.below hSw hlt)
    go_simp
    with_reducible rfl
  simp only [Act.put, List.getElem_toArray, List.getElem_cons_succ, List.getElem_cons_zero, List.setIfInBounds_toArray, List.set_cons_zero, List.set_cons_succ]
  refine wpTree_take (v := ?_) rfl (by kernel_rfl) (fun w hSw => ?_) ?_
  rotate_left 1
  · obtain ⟨e0, e1, e2, e3⟩ := HCC.out _ (r0.below hSw hlt)
    go_simp
    with_reducible rfl
  simp only [Act.put, List.getElem_toArray, List.getElem_cons_succ, List.getElem_cons_zero, List.setIfInBounds_toArray, List.set_cons_zero, List.set_cons_succ]
  refine wpTree_take (v := ?_) rfl (by kernel_rfl) (fun w hSw => ?_) ?_
  rotate_left 1
  · obtain ⟨e0, e1, e2, e3⟩ := HCC.out _ (r0.below hSw hlt)
    go_simp
    with_reducible rfl
  simp only [Act.put, List.getElem_toArray, List.getElem_cons_succ, List.getElem_cons_zero, List.setIfInBounds_toArray, List.set_cons_zero, List.set_cons_succ]
  refine wpTree_take (v := .slice (some ⟨w.heap.size, 4, none⟩) 32 32) rfl (by kernel_rfl) (fun w2 hSw => ?_) ?_
  · have e0 := slice_salt w.heap.size w2
    go_simp
  simp only [Act.put, List.getElem_toArray, List.getElem_cons_succ, List.getElem_cons_zero, List.setIfInBounds_toArray, List.set_cons_zero, List.set_cons_succ]
  refine wpTree_take (v := .string S) rfl (by kernel_rfl) (fun w2 hSw => ?_) ?_
  · have e0 := HCS.out _ (r0.below hSw hlt)
    go_simp
  simp only [Act.put, List.getElem_toArray, List.getElem_cons_succ, List.getElem_cons_zero, List.setIfInBounds_toArray, List.set_cons_zero, List.set_cons_succ]
  refine wpTree_take (v := ?_) rfl (by kernel_rfl) (fun w hSw => ?_) ?_
  rotate_left 1
  · obtain ⟨e0, e1, e2, e3⟩ := HCC.out _ (r0.below hSw hlt)
    go_simp
    with_reducible rfl
  simp only [Act.put, List.getElem_toArray, List.getElem_cons_succ, List.getElem_cons_zero, List.setIfInBounds_toArray, List.set_cons_zero, List.set_cons_succ]
  clear HCC HCS
  refine wpTree_one rfl (fun K hK => ⟨by kernel_rfl, ?_⟩)
  go_simp
  go_at_call 57
  refine (text1_any _ _).mono ?_
  rintro e V1 ⟨rfl, hbn⟩
  replace hb := hb.trans (hbn.mono hb.size)
  refine hK _ _ hb ?_
  clear hK K hbn
  try simp only [Act.put, List.getElem_toArray, List.getElem_cons_succ, List.getElem_cons_zero, List.setIfInBounds_toArray, List.set_cons_zero, List.set_cons_succ]
  refine wpTree_one rfl (fun K hK => ⟨by kernel_rfl, ?_⟩)
  go_simp
  go_at_call 57
  refine (text1_any _ _).mono ?_
  rintro e V2 ⟨rfl, hbn⟩
  replace hb := hb.trans (hbn.mono hb.size)
  refine hK _ _ hb ?_
  clear hK K hbn
  try simp only [Act.put, List.getElem_toArray, List.getElem_cons_succ, List.getElem_cons_zero, List.setIfInBounds_toArray, List.set_cons_zero, List.set_cons_succ]
  refine wpTree_one rfl (fun K hK => ⟨by kernel_rfl, ?_⟩)
  go_simp
  go_at_call 57
  refine (text1_any _ _).mono ?_
  rintro e V3 ⟨rfl, hbn⟩
  replace hb := hb.trans (hbn.mono hb.size)
  refine hK _ _ hb ?_
  clear hK K hbn
  try simp only [Act.put, List.getElem_toArray, List.getElem_cons_succ, List.getElem_cons_zero, List.setIfInBounds_toArray, List.set_cons_zero, List.set_cons_succ]
  refine wpTree_one rfl (fun K hK => ⟨by kernel_rfl, ?_⟩)
  go_simp
  go_at_call 57
  refine (text1_any _ _).mono ?_
  rintro e V4 ⟨rfl, hbn⟩
  replace hb := hb.trans (hbn.mono hb.size)
  refine hK _ _ hb ?_
  clear hK K hbn
  try simp only [Act.put, List.getElem_toArray, List.getElem_cons_succ, List.getElem_cons_zero, List.setIfInBounds_toArray, List.set_cons_zero, List.set_cons_succ]
  refine wpTree_one rfl (fun K hK => ⟨by kernel_rfl, ?_⟩)
  go_simp
  have hsl := HSL.out V4
  replace hb := hb.alloc hb.size (.cells #[.int .i64 1, .int .i64 a, .string ⟨#[]⟩, .slice none 0 0, .int .i64 1, .int .i64 b, .string ⟨#[]⟩, .slice none 0 0, .int .i64 1, .int .i64 c, .string ⟨#[]⟩, .slice none 0 0, .int .i64 1, .int .i64 d, .string ⟨#[]⟩, .slice none 0 0, .int .i64 2, .int .i64 0, .string S, .slice none 0 0] 112)
  refine hK _ _ hb ?_
  clear hK K
  try simp only [Act.put, List.getElem_toArray, List.getElem_cons_succ, List.getElem_cons_zero, List.setIfInBounds_toArray, List.set_cons_zero, List.set_cons_succ]
  refine wpTree_take (v := ?_) rfl (by kernel_rfl) (fun w hSw => ?_) ?_
  rotate_left 1
  · go_simp
    with_reducible rfl
  simp only [Act.put, List.getElem_toArray, List.getElem_cons_succ, List.getElem_cons_zero, List.setIfInBounds_toArray, List.set_cons_zero, List.set_cons_succ]
  refine wpTree_one rfl (fun K hK => ⟨by kernel_rfl, ?_⟩)
  go_simp
  go_at_call 58
  refine (HEN.out _ _ _ hsl).mono ?_
  rintro e V6 ⟨v, rfl, hown, hbn⟩
  replace hb := hb.trans (hbn.mono hb.size)
  refine hK _ _ hb ?_
  clear hK K hbn hsl
  try simp only [Act.put, List.getElem_toArray, List.getElem_cons_succ, List.getElem_cons_zero, List.setIfInBounds_toArray, List.set_cons_zero, List.set_cons_succ]
  iterate 3
    refine wpTree_take (v := ?_) rfl (by kernel_rfl) (fun w hSw => ?_) ?_
    rotate_left 1
    · go_simp
      with_reducible rfl
    simp only [Act.put, List.getElem_toArray, List.getElem_cons_succ, List.getElem_cons_zero, List.setIfInBounds_toArray, List.set_cons_zero, List.set_cons_succ]
  refine wpTree_one rfl (fun K hK => ⟨by kernel_rfl, ?_⟩)
  go_simp
  refine hK _ _ hb ?_
  clear hK K
  try simp only [Act.put, List.getElem_toArray, List.getElem_cons_succ, List.getElem_cons_zero, List.setIfInBounds_toArray, List.set_cons_zero, List.set_cons_succ]
  refine wpTree_done ?_
  simp only [List.drop_succ_cons, List.drop_zero]
  have FIN := Lib.hid (And.intro hown (hB.trans (hb.mono hz)))
  clear hown hb
  go_wp2_with fail
  go_ret
  exact ⟨_, rfl, FIN.out.1, FIN.out.2⟩
  end Go.Proofs.YthboebhghaabnaaDoor
