import Derived.Test.YthckledagggoiaaGreatDoorPi
set_option linter.unusedSimpArgs false
set_option linter.unusedVariables false
namespace Go.Proofs.YthckledagggoiaaGreatDoor
open Go.RowKit Fk Sha
/-! The reference's numerals. -/
abbrev ownR (b : Nat) (w : World) (v : Value) (l : List B) : Prop := w.ownsRow b 5 1 v l.length (l.map bv)
theorem own_oneB (W : World) (c : B) (z : Value) (hz : z = bv c) : ownR W.heap.size (W.alloc (.cells #[z] 5)) (.slice (some ⟨W.heap.size, 0, none⟩) 1 1) [c] :=
  ⟨rfl, .inr ⟨W.heap.size, 1, #[z], rfl, Nat.le_refl _, Row.new W _ [z], Nat.le_refl _, by unfold maxLen; omega, rfl, by rw [hz]; rfl⟩⟩
theorem ownR.lower {b b' : Nat} {w : World} {v : Value} {l : List B} (h : ownR b w v l) (hb : b' ≤ b) : ownR b' w v l :=
  ⟨h.1, h.2.imp id (fun ⟨g, cap, cur, e, hg, r⟩ => ⟨g, cap, cur, e, Nat.le_trans hb hg, r⟩)⟩
theorem ownR.below {b : Nat} {w w' : World} {v : Value} {l : List B} (h : ownR b w v l) (hb : Below w.heap.size w w') : ownR b w' v l := World.ownsRow.kept h (grown_below' hb none) (Classical.em _)
theorem ownR.of {b : Nat} {w : World} {v : Value} {l l' : List B} {n : Nat} (h : w.ownsRow b 5 1 v n (l.map bv)) (hl : l = l') (hn : n = l'.length) : ownR b w v l' := by
  subst hl hn; exact h
set_option maxRecDepth 100000 in
set_option maxHeartbeats 2000000 in
theorem refunsigned_any (n : Nat) (hn : n < 4611686018427387904) (w : World) :
    Calls Tryz.prog 166 #[.int .i64 (n : Int)] w fun e w' => e = .returned (.int .u64 ((2 * n : Nat) : Int)) ∧ w' = w := by
  have h0 : decide ((n : Int) ≥ 0) = true := decide_eq_true (by omega)
  have hm : (n : Int) % 18446744073709551616 = n := by omega
  have hm2 : 2 * (n : Int) % 18446744073709551616 = ((2 * n : Nat) : Int) := by omega
  go_enter Tryz.func166, Tryz.ntmps166
  go_wp2_with fail
  go_ret
  exact ⟨congrArg (fun x => Ending.returned (.int .u64 x)) (show (2 * (n : Int)) = ((2 * n : Nat) : Int) by omega), rfl⟩
set_option maxRecDepth 100000 in
set_option maxHeartbeats 2000000 in
theorem refnumeral_any (u : Nat) : u < 9223372036854775808 → ∀ (w : World),
    Calls Tryz.prog 165 #[.int .u64 (u : Int)] w fun e w' => ∃ v, e = .returned v ∧ ownR w.heap.size w' v (numeral u) ∧ Below w.heap.size w w' := by
  induction u using Nat.strongRecOn with
  | _ u ih =>
  intro hu w
  by_cases hlt : u < 128
  · have hd : decide ((u : Int) < 128) = true := decide_eq_true (by omega)
    have hnu := numeral_small hlt
    have HN := Lib.hid hnu
    have HL := Lib.hid hlt
    clear ih hnu
    go_enter Tryz.func165, Tryz.ntmps165
    go_wp2_with fail
    go_ret
    refine ⟨_, rfl, ?_, (Below.refl _ _).alloc (Nat.le_refl _) _⟩
    rw [HN.out]
    exact own_oneB w _ _ (congrArg (Value.int .u8) (by first | exact byte_small HL.out | (rw [ofNat_bn]; omega)))
  · have hd : decide ((u : Int) < 128) = false := decide_eq_false (by omega)
    have hnu := numeral_big hlt
    have hle : (numeral u).length ≤ 9 := numeral_length 8 u (by omega)
    rw [hnu, List.length_cons] at hle
    have hih := fun w => ih (u / 128) (by omega) (by omega) w
    rw [show ((u / 128 : Nat) : Int) = (u : Int) / 128 by omega] at hih
    have HI := Lib.hid hih
    have HN := Lib.hid hnu
    obtain ⟨R, hR⟩ : ∃ R, numeral (u / 128) = R := ⟨_, rfl⟩
    rw [hR] at hle
    have HR := Lib.hid hR
    obtain ⟨c, hc⟩ : ∃ c, BitVec.ofNat 8 (u % 128 + 128) = c := ⟨_, rfl⟩
    have hcv : ((u : Int) % 128 + 128) % 256 = bn c := by rw [← hc, ofNat_bn]; omega
    have hcv2 : (u : Int) % 128 + 128 = bn c := by rw [← hc, ofNat_bn]; omega
    have HC := Lib.hid hc
    clear ih hih hnu hR hc
    have hB0 := below_alloc' w (.cells #[.int .u8 (bn c)] 5)
    have ho := own_oneB w c _ rfl
    have HO := Lib.hid ho
    have hz : w.heap.size ≤ (w.alloc (.cells #[.int .u8 (bn c)] 5)).heap.size := by simp
    clear ho
    go_enter Tryz.func165, Tryz.ntmps165
    go_wp2_with (first
      | (go_at_call 165; (with_reducible refine (HI.out _).mono ?_); rintro e w1 ⟨v1, rfl, ho1, hb1⟩; rw [HR.out] at ho1; have hob := own_slB ho1 rfl (by omega); have HO1 := Lib.hid (ownR.below HO.out hb1); have HB1 := Lib.hid (hB0.trans (hb1.mono hz)); have HOB := Lib.hid hob; clear ho1 hob hb1)
      | (at_builtin; refine wpList_app rfl _ _ rfl w.heap.size _ 1 [c] rfl HO1.out _ rfl R _ HOB.out.1 HOB.out.2 (by omega) HB1.out.size ?_; intro v2 w2 ho2 hg2))
    go_ret
    refine ⟨_, rfl, ownR.of ho2 (by rw [HN.out, HR.out, HC.out]; rfl) (by rw [HN.out, HR.out, List.length_cons]; omega), HB1.out.grown hg2 HB1.out.size (fun r e => (HO1.out.lt r e).1)⟩
end Go.Proofs.YthckledagggoiaaGreatDoor

set_option linter.unusedSimpArgs false
set_option linter.unusedVariables false
namespace Go.Proofs.YthckledagggoiaaGreatDoor
open Go.RowKit Fk Sha
/-! The reference's values: Int, Ints. -/
theorem own_setCell {w : World} {base n m : Nat} {e : TypeId} {v : Value} {vs : List Value} (h : w.ownsRow base e m v n vs) {p : Addr} (hp : p.block < base) (x : Value) : (w.setCell p x).ownsRow base e m v n vs :=
  h.kept (row := some p.block) ⟨rfl, rfl, rfl, by simp [World.setCell], fun j _ hn => Below.heap_setCell _ _ _ j (fun e => hn (by rw [e]))⟩ (.inr (fun e => by have := (h.lt _ e).1; omega))
set_option maxRecDepth 100000 in
set_option maxHeartbeats 2000000 in
theorem refint_any (n : Int) (w : World) :
    Calls Tryz.prog 147 #[.int .i64 n] w fun e w' => e = .returned (intV n) ∧ Below w.heap.size w w' := by
  have r1 := Row.new w 173 [.int .i64 1, .int .i64 n, .string ⟨#[]⟩, .slice none 0 0]
  have hB0 := below_alloc' w (.cells #[.int .i64 1, .int .i64 n, .string ⟨#[]⟩, .slice none 0 0] 173)
  obtain ⟨k0, k1, k2, k3⟩ := st4 r1
  have HB := Lib.hid hB0
  clear r1 hB0
  go_enter Tryz.func147, Tryz.ntmps147
  go_wp2_with fail
  exact bodyPost_ret (v := intV n) (by simp [results, Tryz.results147, go_sem, k0, k1, k2, k3]) rfl ⟨rfl, HB.out⟩
set_option maxRecDepth 100000 in
set_option maxHeartbeats 4000000 in
theorem refints_any (l : List Int) (v : Value) (w : World) (h : SlI w w.heap.size v l) (hl : l.length ≤ 1000) :
    Calls Tryz.prog 121 #[v] w fun e w' => ∃ A c, e = .returned (listV A l.length c) ∧ SlV w' w'.heap.size (.slice A l.length c) l ∧ Below w.heap.size w w' := by
  obtain ⟨i0, hi, hz0, hz1, hz2⟩ := info_parts infoV4
  have HS := Lib.hid h
  obtain ⟨_, A, c, rfl, _⟩ := h
  have r0 := (Row.new w 173 [.int .i64 0, .int .i64 0, .string ⟨#[]⟩, .slice none 0 0]).alloc (.cells #[.int .i64 3, .int .i64 0, .string ⟨#[]⟩, .slice none 0 0] 173)
  have r1 := Row.new (w.alloc (.cells #[.int .i64 0, .int .i64 0, .string ⟨#[]⟩, .slice none 0 0] 173)) 173 [.int .i64 3, .int .i64 0, .string ⟨#[]⟩, .slice none 0 0]
  have hBa := below_alloc' w (.cells #[.int .i64 0, .int .i64 0, .string ⟨#[]⟩, .slice none 0 0] 173)
  have hB0 := hBa.alloc hBa.size (.cells #[.int .i64 3, .int .i64 0, .string ⟨#[]⟩, .slice none 0 0] 173)
  rw [show (w.alloc (.cells #[.int .i64 0, .int .i64 0, .string ⟨#[]⟩, .slice none 0 0] 173)).heap.size = w.heap.size + 1 by simp] at r1
  go_enter Tryz.func121, Tryz.ntmps121
  go_upto_region 2 with fail
  obtain ⟨W2, hW⟩ : ∃ W, (w.alloc (.cells #[.int .i64 0, .int .i64 0, .string ⟨#[]⟩, .slice none 0 0] 173)).alloc (.cells #[.int .i64 3, .int .i64 0, .string ⟨#[]⟩, .slice none 0 0] 173) = W := ⟨_, rfl⟩
  have r3 : Row W2 w.heap.size 173 [.int .i64 0, .int .i64 0, .string ⟨#[]⟩, .slice none 0 0] := hW ▸ r0
  have r2 : Row W2 (w.heap.size + 1) 173 [.int .i64 3, .int .i64 0, .string ⟨#[]⟩, .slice none 0 0] := hW ▸ r1
  have hB2 : Below w.heap.size w W2 := hW ▸ hB0
  have hz : w.heap.size + 2 ≤ W2.heap.size := r2.lt
  rw [hW]
  clear hW r0 r1 hBa hB0
  go_wp2_with fail
  go_loopg [4] l.length (fun gh iv wr => ∃ (k : Nat) (x : Value), iv = .int .i64 k ∧ k + gh = l.length ∧ Below w.heap.size w wr ∧ w.heap.size + 2 ≤ wr.heap.size ∧ Row wr w.heap.size 173 [.int .i64 0, .int .i64 0, .string ⟨#[]⟩, .slice none 0 0] ∧ Row wr (w.heap.size + 1) 173 [.int .i64 3, .int .i64 0, .string ⟨#[]⟩, x] ∧ wr.ownsRow (w.heap.size + 2) 173 4 x k ((l.take k).flatMap encV))
  case atStart => exact ⟨0, _, rfl, by omega, hB2, hz, r3, r2, World.ownsRow_nil _ _ _ _⟩
  case round =>
    clear hB2 r3 r2 hz
    obtain ⟨k, x, rfl, hkg, hBr, hz, hres, hrow, hown⟩ := hrel
    obtain ⟨k0, k1, k2, k3⟩ := st4 hrow
    have y3 := Row.frozen hrow 3
    have hzz := hrow.lt
    by_cases hlt : k < l.length
    · have hS1 := HS.out.below hBr
      obtain ⟨_, A', c', hv, hE⟩ := id hS1
      obtain ⟨b, off, rfl, hbb, hE⟩ := hE (by omega)
      cases hv
      have d1 := hE.int hlt
      have hsn := take_flatV hlt
      obtain ⟨n, hn⟩ : ∃ n, l.getD k default = n := ⟨_, rfl⟩
      rw [hn] at d1 hsn
      have HSN := Lib.hid hsn
      have HRES := Lib.hid hres
      have HOWN := Lib.hid hown
      have s1 : (0 : Int) ≤ k := by omega
      have s2 : (k : Int) < l.length := by omega
      have hbz : b < wr.heap.size := by omega
      clear hn hsn hE hS1 hown hres
      go_upto_region 5 with fail
      refine wp_region_ordT 9 [(1, 0), (1, 1), (1, 2), (1, 3), (1, 4), (1, 5), (2, 6), (2, 7), (2, 8)] (fun w' => w'.cell? ⟨w.heap.size + 1, 3, none⟩ = some x ∧ w'.cell? ⟨b, off + k, none⟩ = some (.int .i64 n)) (by kernel_rfl) (by kernel_rfl) (fun _ _ d _ _ h => by cases d <;> exact h) ⟨k3, d1⟩ ?_
      have HRES1 := Lib.hid (show Row wr.drew w.heap.size 173 [.int .i64 0, .int .i64 0, .string ⟨#[]⟩, .slice none 0 0] from HRES.out)
      have hB1 : Below w.heap.size w wr.drew := hBr.drew
      have hr1 : Row wr.drew (w.heap.size + 1) 173 [.int .i64 3, .int .i64 0, .string ⟨#[]⟩, x] := hrow
      have HOWN1 := Lib.hid (show wr.drew.ownsRow (w.heap.size + 2) 173 4 x k ((l.take k).flatMap encV) from HOWN.out.kept (grown_below' (Below.refl _ _).drew none) (Classical.em _))
      have hd1 : wr.drew.cell? ⟨b, off + k, none⟩ = some (.int .i64 n) := d1
      have hz1 : w.heap.size + 2 ≤ wr.drew.heap.size := hz
      have hbz1 : b < wr.drew.heap.size := hbz
      clear k0 k1 k2 k3 y3 hzz hrow HRES HOWN d1 hz hbz hBr
      generalize wr.drew = W1 at *
      iterate 6
        refine wpOrd_take (v := ?_) rfl (by rfl) (fun w hSw => ?_) ?_
        rotate_left 1
        · obtain ⟨k3, d1⟩ := hSw
          go_simp
          with_reducible rfl
        simp only [Act.put, List.setIfInBounds_toArray, List.set_cons_zero, List.set_cons_succ]
      refine wpOrd_step rfl (fun K hK => ⟨by rfl, ?_⟩)
      go_simp
      go_at_call 147
      refine (refint_any _ _).mono ?_
      rintro e w3 ⟨rfl, hb⟩
      have hr3 := hr1.below hb hr1.lt
      have hd3 : w3.cell? ⟨b, off + k, none⟩ = some (.int .i64 n) := (hb.cell hbz1).trans hd1
      have hB3 := hB1.trans (hb.mono hB1.size)
      have HOWN3 := Lib.hid (HOWN1.out.kept (grown_below' hb none) (Classical.em _))
      have HRES3 := Lib.hid (HRES1.out.below hb HRES1.out.lt)
      have hz3 := Nat.le_trans hz1 hb.size
      have hbz3 := Nat.lt_of_lt_of_le hbz1 hb.size
      refine hK _ _ ⟨(st4 hr3).2.2.2, hd3⟩ ?_
      clear hK K hr1 hd1 hB1 HOWN1 HRES1 hz1 hbz1 hb
      try simp only [Act.put, List.setIfInBounds_toArray, List.set_cons_zero, List.set_cons_succ]
      refine wpOrd_step rfl (fun K hK => ⟨by rfl, ?_⟩)
      go_simp
      refine hK _ _ ⟨(st4 (hr3.alloc _)).2.2.2, (World.cell?_alloc_past _ _ _ hbz3).trans hd3⟩ ?_
      clear hK K
      try simp only [Act.put, List.setIfInBounds_toArray, List.set_cons_zero, List.set_cons_succ]
      refine wpOrd_step rfl (fun K hK => ⟨by rfl, ?_⟩)
      refine wp_append_lies _ _ _ 171 rfl (w.heap.size + 2) 173 i0 (.agg #[.int .i64 0, .int .i64 0, .string ⟨#[]⟩, .slice none 0 0]) 4 56 Tryz.underlying171 hi hz0 hz1 hz2 rfl (by decide) _ _ _ rfl (HOWN3.out.alloc _) ⟨w3.heap.size, 0, none⟩ 1 1 [.int .i64 1, .int .i64 n, .string ⟨#[]⟩, .slice none 0 0] rfl rfl (cell_four _ _ _ _ _ _) (by simp [Value.oneCell']) (by decide) (by unfold maxLen; omega) (by omega) (by simp; omega) _ rfl ?_
      intro g cap w4 hown4 hgrow hat hlt4
      have hr4 : Row w4 (w.heap.size + 1) 173 [.int .i64 3, .int .i64 0, .string ⟨#[]⟩, x] := Row.keep (hr3.alloc _) (hgrow.block _ (by simp; omega) (fun e => by have := (HOWN3.out.lt _ e.symm).1; omega))
      have hd4 : w4.cell? ⟨b, off + k, none⟩ = some (.int .i64 n) := by
        rw [hgrow.cell_far _ (by simp; omega) (fun e => by have := (HOWN3.out.lt _ e.symm).1; simp only at this; omega)]
        exact (World.cell?_alloc_past _ _ _ hbz3).trans hd3
      refine hK _ _ ⟨(st4 hr4).2.2.2, hd4⟩ ?_
      clear hK K
      try simp only [Act.put, List.setIfInBounds_toArray, List.set_cons_zero, List.set_cons_succ]
      refine wpOrd_nil ?_
      simp only [List.drop_succ_cons, List.drop_zero]
      obtain ⟨k0, k1, k2, k3⟩ := st4 hr4
      have y3 := Row.frozen hr4 3
      have hzz := hr4.lt
      have HOWN4 := Lib.hid hown4
      have HRES4 := Lib.hid (Row.keep (HRES3.out.alloc (.cells #[.int .i64 1, .int .i64 n, .string ⟨#[]⟩, .slice none 0 0] 173)) (hgrow.block _ (by simp; omega) (fun e => by have := (HOWN3.out.lt _ e.symm).1; omega)))
      have HB4 := Lib.hid ((hB3.alloc hB3.size (.cells #[.int .i64 1, .int .i64 n, .string ⟨#[]⟩, .slice none 0 0] 173)).grown hgrow (by simp; omega) (fun r e => by have := (HOWN3.out.lt _ e).1; omega))
      have HR4 := Lib.hid hr4
      clear hr3 hd3 hB3 HOWN3 HRES3 hz3 hbz3 hgrow hat hlt4 hr4 hd4 hown4
      go_wp2_with fail
      go_roundg (gk - 1)
      case measure => omega
      case rel =>
        refine ⟨k + 1, .slice (some ⟨g, 0, none⟩) (k + 1) cap, by first | rfl | go_num, by omega, HB4.out.setCell (p := ⟨w.heap.size + 1, 3, none⟩) (Nat.le_succ _) _, ?_, Row.other HRES4.out (Nat.ne_of_lt (Nat.lt_succ_self _)) _, Row.store HR4.out 3 _, ?_⟩
        · simp [World.setCell]; omega
        · rw [HSN.out]
          exact own_setCell HOWN4.out (p := ⟨w.heap.size + 1, 3, none⟩) (Nat.lt_succ_self _) _
    · obtain rfl : k = l.length := by omega
      rw [List.take_length] at hown
      have hV : SlV wr wr.heap.size x l := own_slG hown (fun _ => rfl) rfl (by omega)
      have hV0 := hV
      obtain ⟨_, A2, c2, rfl, _⟩ := hV0
      obtain ⟨m0, m1, m2, m3⟩ := st4 hres
      have f0 := Row.frozen hres 0
      have f1 := Row.frozen hres 1
      have f2 := Row.frozen hres 2
      have f3 := Row.frozen hres 3
      have hm := hres.lt
      have HV := Lib.hid hown
      have HRES := Lib.hid hres
      have HB := Lib.hid hBr
      clear hown hV hres hBr hrow
      go_wp2_with fail
      have r5 : Row ((((wr.setCell ⟨w.heap.size, 0, none⟩ (.int .i64 3)).setCell ⟨w.heap.size, 1, none⟩ (.int .i64 0)).setCell ⟨w.heap.size, 2, none⟩ (.string ⟨#[]⟩)).setCell ⟨w.heap.size, 3, none⟩ (.slice A2 l.length c2)) w.heap.size 173 [.int .i64 3, .int .i64 0, .string ⟨#[]⟩, .slice A2 l.length c2] := Row.store (Row.store (Row.store (Row.store HRES.out 0 _) 1 _) 2 _) 3 _
      have hB5 := (((HB.out.setCell (p := ⟨w.heap.size, 0, none⟩) (Nat.le_refl _) (.int .i64 3)).setCell (p := ⟨w.heap.size, 1, none⟩) (Nat.le_refl _) (.int .i64 0)).setCell (p := ⟨w.heap.size, 2, none⟩) (Nat.le_refl _) (.string ⟨#[]⟩)).setCell (p := ⟨w.heap.size, 3, none⟩) (Nat.le_refl _) (.slice A2 l.length c2)
      obtain ⟨k0, k1, k2, k3⟩ := st4 r5
      refine bodyPost_ret (v := listV A2 l.length c2) (by simp [results, Tryz.results121, go_sem, k0, k1, k2, k3]) rfl ⟨A2, c2, rfl, ?_, hB5⟩
      exact own_slG (own_setCell (own_setCell (own_setCell (own_setCell HV.out (p := ⟨w.heap.size, 0, none⟩) (by simp only []; omega) _) (p := ⟨w.heap.size, 1, none⟩) (by simp only []; omega) _) (p := ⟨w.heap.size, 2, none⟩) (by simp only []; omega) _) (p := ⟨w.heap.size, 3, none⟩) (by simp only []; omega) _) (fun _ => rfl) rfl (by omega)
end Go.Proofs.YthckledagggoiaaGreatDoor

set_option linter.unusedSimpArgs false
set_option linter.unusedVariables false
namespace Go.Proofs.YthckledagggoiaaGreatDoor
open Go.RowKit Fk Sha
/-! The reference's checks of values. -/
set_option maxRecDepth 100000 in
set_option maxHeartbeats 2000000 in
theorem refformed_int (n : Int) (w : World) :
    Calls Tryz.prog 163 #[intV n] w fun e w' => e = .returned (.bool true) ∧ Below w.heap.size w w' := by
  go_enter Tryz.func163, Tryz.ntmps163
  go_wp2_with fail
  go_ret
  exact ⟨rfl, (Below.refl _ _).alloc (Nat.le_refl _) _⟩
set_option maxRecDepth 100000 in
set_option maxHeartbeats 2000000 in
theorem refdepth_int (n : Int) (w : World) :
    Calls Tryz.prog 164 #[intV n] w fun e w' => e = .returned (.int .i64 0) ∧ Below w.heap.size w w' := by
  go_enter Tryz.func164, Tryz.ntmps164
  go_wp2_with fail
  go_ret
  exact ⟨rfl, (Below.refl _ _).alloc (Nat.le_refl _) _⟩
set_option maxRecDepth 100000 in
set_option maxHeartbeats 2000000 in
theorem refformed_list (l : List Int) (A : Option Addr) (c : Nat) (w : World) (h : SlV w w.heap.size (.slice A l.length c) l) :
    Calls Tryz.prog 163 #[listV A l.length c] w fun e w' => e = .returned (.bool true) ∧ Below w.heap.size w w' := by
  have HS := Lib.hid h
  have hl := h.1
  clear h
  have r0 := Row.new w 173 [.int .i64 3, .int .i64 0, .string ⟨#[]⟩, .slice A l.length c]
  have hB0 := below_alloc' w (.cells #[.int .i64 3, .int .i64 0, .string ⟨#[]⟩, .slice A l.length c] 173)
  go_enter Tryz.func163, Tryz.ntmps163
  go_wp2_with fail
  go_loopg [3] l.length (fun g iv wr => Row wr w.heap.size 173 [.int .i64 3, .int .i64 0, .string ⟨#[]⟩, .slice A l.length c] ∧ Below w.heap.size w wr ∧ ∃ k : Nat, iv = .int .i64 k ∧ k + g = l.length)
  case atStart => exact ⟨r0, hB0, 0, rfl, by omega⟩
  case round =>
    clear r0 hB0
    obtain ⟨hrow, hBr, k, rfl, hkg⟩ := hrel
    have hzr := hBr.size
    obtain ⟨k0, k1, k2, k3⟩ := st4 hrow
    have hzz := hrow.lt
    by_cases hlt : k < l.length
    · obtain ⟨b, o, c', hv, hb, d0, d1, d2, d3⟩ := SlV.get (HS.out.below hBr) hlt
      cases hv
      have s1 : (0 : Int) ≤ k := by omega
      have s2 : (k : Int) < l.length := by omega
      have hbz : b < wr.heap.size := by omega
      obtain ⟨x, hx⟩ : ∃ x, l.getD k default = x := ⟨_, rfl⟩
      rw [hx] at d1
      clear hx
      go_wp2_with (go_at_call 163; (with_reducible refine (refformed_int _ _).mono ?_); rintro e wn ⟨rfl, hn⟩)
      go_roundg (gk - 1)
      case measure => omega
      case rel => exact ⟨hrow.below hn hzz, hBr.trans (hn.mono hzr), k + 1, by first | rfl | go_num, by omega⟩
    · obtain rfl : k = l.length := by omega
      go_wp2_with fail
      go_ret
      exact ⟨rfl, hBr⟩
set_option maxRecDepth 100000 in
set_option maxHeartbeats 2000000 in
theorem refdepth_list (l : List Int) (A : Option Addr) (c : Nat) (w : World) (h : SlV w w.heap.size (.slice A l.length c) l) :
    Calls Tryz.prog 164 #[listV A l.length c] w fun e w' => e = .returned (.int .i64 1) ∧ Below w.heap.size w w' := by
  have HS := Lib.hid h
  have hl := h.1
  clear h
  have r0 := Row.new w 173 [.int .i64 3, .int .i64 0, .string ⟨#[]⟩, .slice A l.length c]
  have hB0 := below_alloc' w (.cells #[.int .i64 3, .int .i64 0, .string ⟨#[]⟩, .slice A l.length c] 173)
  go_enter Tryz.func164, Tryz.ntmps164
  go_wp2_with fail
  go_loopg [3, 4] l.length (fun g nv iv wr => nv = .int .i64 0 ∧ Row wr w.heap.size 173 [.int .i64 3, .int .i64 0, .string ⟨#[]⟩, .slice A l.length c] ∧ Below w.heap.size w wr ∧ ∃ k : Nat, iv = .int .i64 k ∧ k + g = l.length)
  case atStart => exact ⟨rfl, r0, hB0, 0, rfl, by omega⟩
  case round =>
    clear r0 hB0
    obtain ⟨rfl, hrow, hBr, k, rfl, hkg⟩ := hrel
    have hzr := hBr.size
    obtain ⟨k0, k1, k2, k3⟩ := st4 hrow
    have hzz := hrow.lt
    by_cases hlt : k < l.length
    · obtain ⟨b, o, c', hv, hb, d0, d1, d2, d3⟩ := SlV.get (HS.out.below hBr) hlt
      cases hv
      have s1 : (0 : Int) ≤ k := by omega
      have s2 : (k : Int) < l.length := by omega
      have hbz : b < wr.heap.size := by omega
      obtain ⟨x, hx⟩ : ∃ x, l.getD k default = x := ⟨_, rfl⟩
      rw [hx] at d1
      clear hx
      go_wp2_with (go_at_call 164; (with_reducible refine (refdepth_int _ _).mono ?_); rintro e wn ⟨rfl, hn⟩)
      go_roundg (gk - 1)
      case measure => omega
      case rel => exact ⟨by first | rfl | go_num, hrow.below hn hzz, hBr.trans (hn.mono hzr), k + 1, by first | rfl | go_num, by omega⟩
    · obtain rfl : k = l.length := by omega
      go_wp2_with fail
      go_ret
      exact ⟨by first | rfl | go_num, hBr⟩
set_option maxRecDepth 100000 in
set_option maxHeartbeats 2000000 in
theorem refcheck_list (l : List Int) (A : Option Addr) (c : Nat) (w : World) (h : SlV w w.heap.size (.slice A l.length c) l) :
    Calls Tryz.prog 145 #[listV A l.length c] w fun e w' => e = .returned (.int .i64 0) ∧ Below w.heap.size w w' := by
  have HS := Lib.hid h
  clear h
  have r0 := Row.new w 173 [.int .i64 3, .int .i64 0, .string ⟨#[]⟩, .slice A l.length c]
  have hB0 := below_alloc' w (.cells #[.int .i64 3, .int .i64 0, .string ⟨#[]⟩, .slice A l.length c] 173)
  have hf := fun W (h : Below w.heap.size w W) => refformed_list l A c W ((HS.out.below h).mono h.size)
  have hd := fun W (h : Below w.heap.size w W) => refdepth_list l A c W ((HS.out.below h).mono h.size)
  have HF := Lib.hid hf
  have HD := Lib.hid hd
  clear hf hd
  go_enter Tryz.func145, Tryz.ntmps145
  obtain ⟨W, hW⟩ : ∃ W, w.alloc (.cells #[.int .i64 3, .int .i64 0, .string ⟨#[]⟩, .slice A l.length c] 173) = W := ⟨_, rfl⟩
  replace r0 : Row W w.heap.size 173 [.int .i64 3, .int .i64 0, .string ⟨#[]⟩, .slice A l.length c] := hW ▸ r0
  rw [hW] at hB0
  have hz := r0.lt
  go_upto_region 1 with fail
  clear hW
  obtain ⟨k0, k1, k2, k3⟩ := st4 r0
  go_wp2_with (first
    | (go_at_call 163; (with_reducible refine (HF.out _ hB0).mono ?_); rintro e w1 ⟨rfl, hb⟩; replace r0 := r0.below hb hz; replace hB0 := hB0.trans (hb.mono hB0.size); replace hz := r0.lt; clear k0 k1 k2 k3; obtain ⟨k0, k1, k2, k3⟩ := st4 r0)
    | (go_at_call 164; (with_reducible refine (HD.out _ hB0).mono ?_); rintro e w2 ⟨rfl, hb2⟩))
  go_ret
  exact ⟨rfl, hB0.trans (hb2.mono hB0.size)⟩
end Go.Proofs.YthckledagggoiaaGreatDoor

set_option linter.unusedSimpArgs false
set_option linter.unusedVariables false
namespace Go.Proofs.YthckledagggoiaaGreatDoor
open Go.RowKit Fk Sha
/-! The reference's encoding. -/
set_option maxRecDepth 100000 in
set_option maxHeartbeats 4000000 in
theorem refencode_int (n : Nat) (hn : n < 4611686018427387904) (w : World) :
    Calls Tryz.prog 146 #[intV (n : Int)] w fun e w' => ∃ v, e = .returned v ∧ ownR w.heap.size w' v (encI1 (n : Int)) ∧ Below w.heap.size w w' := by
  have hu := fun w => refunsigned_any n hn w
  have hnm := fun w => refnumeral_any (2 * n) (by omega) w
  have hle : (numeral (2 * n)).length ≤ 9 := numeral_length 8 (2 * n) (by omega)
  have hen : encI1 (n : Int) = 1#8 :: numeral (2 * n) := by unfold encI1; rw [Int.toNat_natCast]
  obtain ⟨m, hm⟩ : ∃ m, 2 * n = m := ⟨_, rfl⟩
  rw [hm] at hu hnm hle hen
  obtain ⟨R, hR⟩ : ∃ R, numeral m = R := ⟨_, rfl⟩
  rw [hR] at hnm hle hen
  have HU := Lib.hid hu
  have HM := Lib.hid hnm
  have HE := Lib.hid hen
  have hBb := below_alloc' w (.cells #[.int .i64 1, .int .i64 (n : Int), .string ⟨#[]⟩, .slice none 0 0] 173)
  have hB0 := hBb.alloc hBb.size (.cells #[.int .u8 1] 5)
  have ho := own_oneB (w.alloc (.cells #[.int .i64 1, .int .i64 (n : Int), .string ⟨#[]⟩, .slice none 0 0] 173)) 1#8 (.int .u8 1) rfl
  have hz : w.heap.size + 1 ≤ ((w.alloc (.cells #[.int .i64 1, .int .i64 (n : Int), .string ⟨#[]⟩, .slice none 0 0] 173)).alloc (.cells #[.int .u8 1] 5)).heap.size := by simp
  rw [show (w.alloc (.cells #[.int .i64 1, .int .i64 (n : Int), .string ⟨#[]⟩, .slice none 0 0] 173)).heap.size = w.heap.size + 1 by simp] at ho
  have HO := Lib.hid ho
  clear hu hnm hen hR hm ho hBb
  go_enter Tryz.func146, Tryz.ntmps146
  go_wp2_with (first
    | (go_at_call 166; (with_reducible refine (HU.out _).mono ?_); rintro e w1 ⟨rfl, rfl⟩)
    | (go_at_call 165; (with_reducible refine (HM.out _).mono ?_); rintro e w1 ⟨v1, rfl, ho1, hb1⟩; have hob := own_slB ho1 rfl (by omega); have HO1 := Lib.hid (ownR.below HO.out hb1); have HB1 := Lib.hid (hB0.trans (hb1.mono hB0.size)); have hz1 := Nat.le_trans hz hb1.size; have HOB := Lib.hid hob; clear ho1 hob hb1)
    | (at_builtin; refine wpList_app rfl _ _ rfl (w.heap.size + 1) _ 1 [1#8] rfl HO1.out _ rfl R _ HOB.out.1 HOB.out.2 (by omega) hz1 ?_; intro v2 w2 ho2 hg2))
  go_ret
  refine ⟨_, rfl, ?_, HB1.out.grown hg2 HB1.out.size (fun r e => by have := (HO1.out.lt r e).1; omega)⟩
  rw [HE.out]
  exact ownR.lower (ownR.of ho2 rfl (by rw [List.length_cons]; omega)) (by omega)
set_option maxRecDepth 100000 in
set_option maxHeartbeats 4000000 in
theorem refencode_list (l : List Int) (A : Option Addr) (c : Nat) (w : World) (h : SlV w w.heap.size (.slice A l.length c) l) (hs : smallI l) (hl : l.length ≤ 1000) :
    Calls Tryz.prog 146 #[listV A l.length c] w fun e w' => ∃ v, e = .returned v ∧ ownR w.heap.size w' v (encL l) ∧ Below w.heap.size w w' := by
  have HS := Lib.hid h
  have HN := Lib.hid hs
  have HF := Lib.hid (flat_length hs)
  have hnm := fun w => refnumeral_any l.length (by omega) w
  have hle : (numeral l.length).length ≤ 9 := numeral_length 8 l.length (by omega)
  have hen : encHd l.length = 3#8 :: numeral l.length := rfl
  obtain ⟨R, hR⟩ : ∃ R, numeral l.length = R := ⟨_, rfl⟩
  rw [hR] at hnm hle hen
  have HM := Lib.hid hnm
  have HE := Lib.hid hen
  clear h hs hnm hen hR
  have r0 := Row.new w 173 [.int .i64 3, .int .i64 0, .string ⟨#[]⟩, .slice A l.length c]
  have hBb := below_alloc' w (.cells #[.int .i64 3, .int .i64 0, .string ⟨#[]⟩, .slice A l.length c] 173)
  go_enter Tryz.func146, Tryz.ntmps146
  obtain ⟨W, hW⟩ : ∃ W, w.alloc (.cells #[.int .i64 3, .int .i64 0, .string ⟨#[]⟩, .slice A l.length c] 173) = W := ⟨_, rfl⟩
  replace r0 : Row W w.heap.size 173 [.int .i64 3, .int .i64 0, .string ⟨#[]⟩, .slice A l.length c] := hW ▸ r0
  have hzW : W.heap.size = w.heap.size + 1 := by rw [← hW]; simp
  rw [hW] at hBb
  go_upto_region 1 with fail
  clear hW
  have hz := r0.lt
  obtain ⟨k0, k1, k2, k3⟩ := st4 r0
  have ho := own_oneB W 3#8 (.int .u8 3) rfl
  rw [hzW] at ho
  have HO := Lib.hid ho
  have hB0 := hBb.alloc hBb.size (.cells #[.int .u8 3] 5)
  have r0' := r0.alloc (.cells #[.int .u8 3] 5)
  have hz0 : w.heap.size + 1 ≤ (W.alloc (.cells #[.int .u8 3] 5)).heap.size := by simp; omega
  clear ho
  go_upto_region 7 with (first
    | (go_at_call 165; (with_reducible refine (HM.out _).mono ?_); rintro e w1 ⟨v1, rfl, ho1, hb1⟩; have hob := own_slB ho1 rfl (by omega); have HO1 := Lib.hid (ownR.below HO.out hb1); have HB1 := Lib.hid (hB0.trans (hb1.mono hB0.size)); have hz1 := Nat.le_trans hz0 hb1.size; have HOB := Lib.hid hob; have HR1 := Lib.hid (r0'.below hb1 r0'.lt); clear ho1 hob hb1)
    | (at_builtin; refine wpList_app rfl _ _ rfl (w.heap.size + 1) _ 1 [3#8] (by first | rfl | simp [hzW]) HO1.out _ rfl R _ HOB.out.1 HOB.out.2 (by omega) hz1 ?_; intro v2 w2 ho2 hg2))
  have hB2 := HB1.out.grown hg2 HB1.out.size (fun r e => by have := (HO1.out.lt r e).1; omega)
  have hr2 : Row w2 w.heap.size 173 [.int .i64 3, .int .i64 0, .string ⟨#[]⟩, .slice A l.length c] := HR1.out.keep (hg2.block _ HR1.out.lt (fun e => by have := (HO1.out.lt _ e.symm).1; omega))
  have ho3 : ownR (w.heap.size + 1) w2 v2 (encHd l.length ++ (l.take 0).flatMap encI1) := ownR.of ho2 (by rw [HE.out]; simp) (by rw [HE.out]; simp; omega)
  have hz2 : w.heap.size + 1 ≤ w2.heap.size := Nat.le_trans hz1 hg2.size
  clear HM HO HO1 HB1 HOB HR1 hz1 hz0 r0' hB0 k0 k1 k2 k3 hz r0 hBb hzW ho2 hg2
  go_wp2_with fail
  go_loopg [3, 4] l.length (fun gh ov iv wr => ∃ k : Nat, iv = .int .i64 k ∧ k + gh = l.length ∧ Row wr w.heap.size 173 [.int .i64 3, .int .i64 0, .string ⟨#[]⟩, .slice A l.length c] ∧ Below w.heap.size w wr ∧ w.heap.size + 1 ≤ wr.heap.size ∧ ownR (w.heap.size + 1) wr ov (encHd l.length ++ (l.take k).flatMap encI1))
  case atStart => exact ⟨0, rfl, by omega, hr2, hB2, hz2, ho3⟩
  case round =>
    clear hr2 hB2 hz2 ho3
    obtain ⟨k, rfl, hkg, hrow, hBr, hzr, hown⟩ := hrel
    obtain ⟨k0, k1, k2, k3⟩ := st4 hrow
    have hzz := hrow.lt
    by_cases hlt : k < l.length
    · obtain ⟨b, o, c', hv, hb, d0, d1, d2, d3⟩ := SlV.get (HS.out.below hBr) hlt
      cases hv
      have hnn := HN.out k hlt
      have hsn := take_snocJ hlt
      have hlen := HF.out k (by omega)
      have hhd := encHd_length (n := l.length) (by omega)
      have hfl : (encHd l.length ++ (l.take k).flatMap encI1).length ≤ 1000000 := by rw [List.length_append]; omega
      have hxl := encI1_length hnn.2
      obtain ⟨x, hx⟩ : ∃ x, l.getD k default = x := ⟨_, rfl⟩
      rw [hx] at d1 hnn hsn hxl
      obtain ⟨m, rfl⟩ : ∃ m : Nat, x = (m : Int) := ⟨x.toNat, by omega⟩
      have s1 : (0 : Int) ≤ k := by omega
      have s2 : (k : Int) < l.length := by omega
      have hbz : b < wr.heap.size := by omega
      clear hx hlen hhd
      obtain ⟨acc, hacc⟩ : ∃ acc, encHd l.length ++ (l.take k).flatMap encI1 = acc := ⟨_, rfl⟩
      have HSN := Lib.hid hsn
      have HAC := Lib.hid hacc
      rw [hacc] at hown hfl
      have hei := fun w => refencode_int m (by omega) w
      obtain ⟨E, hE⟩ : ∃ E, encI1 (m : Int) = E := ⟨_, rfl⟩
      rw [hE] at hei hxl
      have HEE := Lib.hid hE
      have HEI := Lib.hid hei
      have HOW := Lib.hid hown
      have HROW := Lib.hid hrow
      clear hsn hacc hei hE hown
      go_wp2_with (first
        | (go_at_call 146; (with_reducible refine (HEI.out _).mono ?_); rintro e w1 ⟨v1, rfl, ho1, hb1⟩; have HOB := Lib.hid (own_slB ho1 rfl (by omega)); have HO1 := Lib.hid (ownR.below HOW.out hb1); have HB1 := Lib.hid (hBr.trans (hb1.mono hBr.size)); have hz1 := Nat.le_trans hzr hb1.size; have HR1 := Lib.hid (HROW.out.below hb1 hzz); clear ho1 hb1)
        | (at_builtin; refine wpList_app rfl _ _ rfl (w.heap.size + 1) _ acc.length acc rfl HO1.out _ rfl E _ HOB.out.1 HOB.out.2 (by omega) hz1 ?_; intro v2 w2 ho2 hg2))
      go_roundg (gk - 1)
      case measure => omega
      case rel =>
        refine ⟨k + 1, by first | rfl | go_num, by omega, HR1.out.keep (hg2.block _ HR1.out.lt (fun e => by have := (HO1.out.lt _ e.symm).1; omega)), HB1.out.grown hg2 HB1.out.size (fun r e => by have := (HO1.out.lt r e).1; omega), Nat.le_trans hz1 hg2.size, ?_⟩
        rw [HSN.out, ← List.append_assoc, HAC.out]
        exact ownR.of ho2 (by rw [HEE.out]) (by rw [List.length_append, HEE.out])
    · obtain rfl : k = l.length := by omega
      rw [List.take_length] at hown
      go_wp2_with fail
      go_ret
      exact ⟨_, rfl, ownR.lower hown (by omega), hBr⟩
set_option maxRecDepth 100000 in
set_option maxHeartbeats 4000000 in
theorem refEncode_list (l : List Int) (A : Option Addr) (c : Nat) (w : World) (h : SlV w w.heap.size (.slice A l.length c) l) (hs : smallI l) (hl : l.length ≤ 1000) :
    Calls Tryz.prog 120 #[listV A l.length c] w fun e w' => ∃ v, e = .returned (.tuple #[v, .int .i64 0]) ∧ ownR w.heap.size w' v (encL l) ∧ Below w.heap.size w w' := by
  have HS := Lib.hid h
  have HN := Lib.hid hs
  clear h hs
  have r0 := Row.new w 173 [.int .i64 3, .int .i64 0, .string ⟨#[]⟩, .slice A l.length c]
  have hB0 := below_alloc' w (.cells #[.int .i64 3, .int .i64 0, .string ⟨#[]⟩, .slice A l.length c] 173)
  have hf := fun W (h : Below w.heap.size w W) => refcheck_list l A c W ((HS.out.below h).mono h.size)
  have hd := fun W (h : Below w.heap.size w W) => refencode_list l A c W ((HS.out.below h).mono h.size) HN.out hl
  have HF := Lib.hid hf
  have HD := Lib.hid hd
  clear hf hd
  go_enter Tryz.func120, Tryz.ntmps120
  obtain ⟨W, hW⟩ : ∃ W, w.alloc (.cells #[.int .i64 3, .int .i64 0, .string ⟨#[]⟩, .slice A l.length c] 173) = W := ⟨_, rfl⟩
  replace r0 : Row W w.heap.size 173 [.int .i64 3, .int .i64 0, .string ⟨#[]⟩, .slice A l.length c] := hW ▸ r0
  rw [hW] at hB0
  have hz := r0.lt
  go_upto_region 1 with fail
  clear hW
  obtain ⟨k0, k1, k2, k3⟩ := st4 r0
  go_wp2_with (first
    | (go_at_call 145; (with_reducible refine (HF.out _ hB0).mono ?_); rintro e w1 ⟨rfl, hb⟩; replace r0 := r0.below hb hz; replace hB0 := hB0.trans (hb.mono hB0.size); replace hz := r0.lt; clear k0 k1 k2 k3; obtain ⟨k0, k1, k2, k3⟩ := st4 r0)
    | (go_at_call 146; (with_reducible refine (HD.out _ hB0).mono ?_); rintro e w2 ⟨v, rfl, ho, hb2⟩))
  go_ret2
  exact ⟨v, rfl, ownR.lower ho hB0.size, hB0.trans (hb2.mono hB0.size)⟩
end Go.Proofs.YthckledagggoiaaGreatDoor
