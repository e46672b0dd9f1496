import Derived.Test.YthckledagggoiaaGreatDoorAr3
import Derived.Test.YthckledagggoiaaGreatDoorMb
import Derived.Deep.LoopGhost
import Derived.IntWalk
set_option linter.unusedSimpArgs false
set_option linter.unusedVariables false
namespace Go.Proofs.YthckledagggoiaaGreatDoor
open Go.RowKit Fk
/-! The reference's registry: Check, Standing. -/
def EntAt (w : World) (b o : Nat) (x : En) : Prop := w.cell? ⟨b, o, none⟩ = some (.int .i64 x.no) ∧ w.cell? ⟨b, o + 1, none⟩ = some (.int .i64 x.kind) ∧ w.cell? ⟨b, o + 2, none⟩ = some (.int .i64 x.a) ∧ w.cell? ⟨b, o + 3, none⟩ = some (.int .i64 x.b) ∧
    w.cell? ⟨b, o + 4, none⟩ = some (.int .i64 x.from_) ∧ w.cell? ⟨b, o + 5, none⟩ = some (.int .i64 x.until_) ∧ w.cell? ⟨b, o + 6, none⟩ = some (.int .i64 x.known) ∧ w.cell? ⟨b, o + 7, none⟩ = some (.int .i64 x.gone)
theorem EntAt.below {w w' : World} {b o : Nat} {x : En} (h : EntAt w b o x) {n : Nat} (hb : Below n w w') (hn : b < n) : EntAt w' b o x := by
  have k : ∀ i, w'.cell? ⟨b, i, none⟩ = w.cell? ⟨b, i, none⟩ := fun i => World.cell?_of_block (hb.block b hn)
  obtain ⟨h0, h1, h2, h3, h4, h5, h6, h7⟩ := h
  exact ⟨(k _).trans h0, (k _).trans h1, (k _).trans h2, (k _).trans h3, (k _).trans h4, (k _).trans h5, (k _).trans h6, (k _).trans h7⟩
theorem ent_at {w : World} {B0 : Nat} {v : Value} {l : List En} (h : SlE w B0 v l) {k : Nat} (hk : k < l.length) : ∃ b o c, v = .slice (some ⟨b, o, none⟩) l.length c ∧ b < B0 ∧ ∀ j, j < l.length → EntAt w b (o + j * 8) (l.getD j default) := by
  obtain ⟨_, A, c, rfl, hE⟩ := h
  obtain ⟨b, off, rfl, hb, hE⟩ := hE (by omega)
  exact ⟨b, off, c, rfl, hb, fun j hj => ⟨hE j hj 0 (by omega), hE j hj 1 (by omega), hE j hj 2 (by omega), hE j hj 3 (by omega), hE j hj 4 (by omega), hE j hj 5 (by omega), hE j hj 6 (by omega), hE j hj 7 (by omega)⟩⟩
/-! what Check asks, entry by entry -/
theorem ok_of : ∀ (l : List En) (last : Int), (∀ i, i < l.length → validB (l.getD i default) = true ∧ (0 < i → (l.getD (i - 1) default).no < (l.getD i default).no)) → (0 < l.length → last < (l.getD 0 default).no) → okTo last l = true
  | [], _, _, _ => rfl
  | x :: r, last, h, h0 => by
    unfold okTo
    rw [Bool.and_eq_true, Bool.and_eq_true, decide_eq_true_eq]
    refine ⟨(h 0 (by simp)).1, h0 (by simp), ok_of r x.no (fun i hi => ?_) (fun hp => ?_)⟩
    · have h1 := h (i + 1) (by simp; omega)
      refine ⟨h1.1, fun h2 => ?_⟩
      have h3 := h1.2 (by omega)
      rw [show i + 1 - 1 = (i - 1) + 1 by omega] at h3
      exact h3
    · exact (h 1 (by simp; omega)).2 (by omega)
theorem ok_is : ∀ (l : List En) (last : Int), okTo last l = true → ∀ i, i < l.length → validB (l.getD i default) = true ∧ (0 < i → (l.getD (i - 1) default).no < (l.getD i default).no)
  | [], _, _ => fun i hi => by simp at hi
  | x :: r, last, h => by
    unfold okTo at h
    rw [Bool.and_eq_true, Bool.and_eq_true, decide_eq_true_eq] at h
    obtain ⟨h1, h2, h3⟩ := h
    have ih := ok_is r x.no h3
    intro i hi
    cases i with
    | zero => exact ⟨h1, fun h => by omega⟩
    | succ i =>
      have hir : i < r.length := by simpa using hi
      refine ⟨(ih i hir).1, fun _ => ?_⟩
      cases i with
      | zero =>
        show x.no < (r.getD 0 default).no
        cases r with
        | nil => simp at hir
        | cons y r' =>
          unfold okTo at h3
          rw [Bool.and_eq_true, Bool.and_eq_true, decide_eq_true_eq] at h3
          exact h3.2.1
      | succ i => exact (ih (i + 1) hir).2 (by omega)
theorem valid_no {x : En} (h : validB x = true) : 0 ≤ x.no := by
  unfold validB idB at h
  simp only [Bool.and_eq_true, decide_eq_true_eq] at h
  omega
theorem okL_of {l : List En} (h : ∀ i, i < l.length → validB (l.getD i default) = true ∧ (0 < i → (l.getD (i - 1) default).no < (l.getD i default).no)) : okL l = true :=
  ok_of l (-1) h (fun hp => by have := valid_no (h 0 hp).1; omega)
set_option maxRecDepth 100000 in
set_option maxHeartbeats 4000000 in
theorem r33check_any (l : List En) (v : Value) (w : World) (h : SlE w w.heap.size v l) : Calls Tryz.prog 16 #[v] w fun e w' => e = .returned (.int .i64 (chkE l)) ∧ Below w.heap.size w w' := by
  have HS := Lib.hid h
  obtain ⟨_, A, c, rfl, _⟩ := h
  have hC : chkE l = if 1024 < l.length then 2 else if okL l then 0 else 330 := rfl
  rw [hC]
  clear hC
  by_cases hl : 1024 < l.length
  · rw [if_pos hl]
    have f1 : decide (1024 < (l.length : Int)) = true := decide_eq_true (by omega)
    go_enter Tryz.func16, Tryz.ntmps16
    go_wp2
    go_ret
    exact ⟨rfl, Below.refl _ _⟩
  rw [if_neg hl]
  obtain ⟨R, hR⟩ : ∃ R, (if okL l = true then (0 : Int) else 330) = R := ⟨_, rfl⟩
  rw [hR]
  have HR := Lib.hid hR
  have hl2 : l.length ≤ 1024 := by omega
  clear hR
  go_enter Tryz.func16, Tryz.ntmps16
  go_wp2
  go_loopg [3] l.length (fun g iv wr => Below w.heap.size w wr ∧ ∃ k : Nat, iv = .int .i64 k ∧ k + g = l.length ∧ ∀ i, i < k → validB (l.getD i default) = true ∧ (0 < i → (l.getD (i - 1) default).no < (l.getD i default).no))
  case atStart => exact ⟨Below.refl _ _, 0, rfl, by omega, fun i hi => by omega⟩
  case round =>
    clear hl
    obtain ⟨hBr, k, rfl, hkg, hall⟩ := hrel
    by_cases hlt : k < l.length
    · obtain ⟨b, off, c', hv, hb, hE⟩ := ent_at (HS.out.below hBr) hlt
      cases hv
      have ek := hE k hlt
      have ej : 0 < k → EntAt wr b (off + (k - 1) * 8) (l.getD (k - 1) default) := fun h => hE (k - 1) (by omega)
      have hbr : b < wr.heap.size := by have := hBr.size; omega
      have hva := r33valid_any (l.getD k default)
      obtain ⟨x, hx⟩ : ∃ x, l.getD k default = x := ⟨_, rfl⟩
      obtain ⟨y, hy⟩ : ∃ y, l.getD (k - 1) default = y := ⟨_, rfl⟩
      rw [hx] at ek hva
      rw [hy] at ej
      have HX := Lib.hid hx
      have HY := Lib.hid hy
      have HALL := Lib.hid hall
      have EK := Lib.hid ek
      have EJ := Lib.hid ej
      have s1 : (0 : Int) ≤ k := by omega
      have s2 : (k : Int) < l.length := by omega
      have s3 : ((k : Int)).toNat = k := by omega
      clear hE hx hy hall ek ej
      cases hvb : validB x with
      | false =>
        rw [hvb] at hva
        unfold En.val at hva
        have HV := Lib.hid hva
        have hno : okL l = false := by
          cases ho : okL l with
          | false => rfl
          | true =>
            have := (ok_is l _ ho k hlt).1
            rw [HX.out, hvb] at this; cases this
        have HNO := Lib.hid hno
        clear hva hvb hno
        go_wp2
        refine wp_region_det 23 (fun w0 => Below wr.heap.size wr w0) (by kernel_rfl) (by kernel_rfl) (Below.refl _ _).drew ?_
        iterate 3
          refine wpDet_take (v := ?_) rfl (by kernel_rfl) (fun w0 hSw => ?_) ?_
          rotate_left 1
          · skip
            go_simp
            with_reducible rfl
          simp only [Act.put, List.getElem_toArray, List.getElem_cons_succ, List.getElem_cons_zero, List.setIfInBounds_toArray, List.set_cons_zero, List.set_cons_succ]
        refine wpDet_take (v := .agg #[.int .i64 x.no, .int .i64 x.kind, .int .i64 x.a, .int .i64 x.b, .int .i64 x.from_, .int .i64 x.until_, .int .i64 x.known, .int .i64 x.gone]) rfl (by kernel_rfl) (fun w0 hSw => ?_) ?_
        · obtain ⟨d0, d1, d2, d3, d4, d5, d6, d7⟩ := EK.out.below hSw hbr
          go_simp
        simp only [Act.put, List.getElem_toArray, List.getElem_cons_succ, List.getElem_cons_zero, List.setIfInBounds_toArray, List.set_cons_zero, List.set_cons_succ]
        refine wpDet_call (v := .bool false) rfl (by kernel_rfl) (fun w0 hSw K hK => ?_) ?_
        · go_simp
          go_at_call 51
          refine (HV.out _).mono ?_
          rintro e w9 ⟨rfl, hb⟩
          exact hK _ (hSw.trans (hb.mono hSw.size))
        simp only [Act.put, List.getElem_toArray, List.getElem_cons_succ, List.getElem_cons_zero, List.setIfInBounds_toArray, List.set_cons_zero, List.set_cons_succ]
        iterate 2
          refine wpDet_take (v := ?_) rfl (by kernel_rfl) (fun w0 hSw => ?_) ?_
          rotate_left 1
          · skip
            go_simp
            with_reducible rfl
          simp only [Act.put, List.getElem_toArray, List.getElem_cons_succ, List.getElem_cons_zero, List.setIfInBounds_toArray, List.set_cons_zero, List.set_cons_succ]
        iterate 16
          refine wpDet_skip rfl (by kernel_rfl) ?_
          simp only [Act.put, List.getElem_toArray, List.getElem_cons_succ, List.getElem_cons_zero, List.setIfInBounds_toArray, List.set_cons_zero, List.set_cons_succ]
        refine wpDet_done (fun wd hd => ?_)
        have hBd := hBr.trans (hd.mono hBr.size)
        clear s1 s2 s3
        go_wp2
        rw [← HR.out, HNO.out]
        go_ret
        exact ⟨rfl, hBd⟩
      | true =>
        rw [hvb] at hva
        unfold En.val at hva
        have HV := Lib.hid hva
        have HVB := Lib.hid hvb
        clear hva hvb
        rcases Nat.eq_zero_or_pos k with hk0 | hk0
        · have t0 : decide ((0 : Int) < (k : Int)) = false := decide_eq_false (by omega)
          have t1 : ¬ 0 < k := by omega
          have HK0 := Lib.hid hk0
          clear hk0
          go_wp2
          refine wp_region_det 23 (fun w0 => Below wr.heap.size wr w0) (by kernel_rfl) (by kernel_rfl) (Below.refl _ _).drew ?_
          iterate 3
            refine wpDet_take (v := ?_) rfl (by kernel_rfl) (fun w0 hSw => ?_) ?_
            rotate_left 1
            · skip
              go_simp
              with_reducible rfl
            simp only [Act.put, List.getElem_toArray, List.getElem_cons_succ, List.getElem_cons_zero, List.setIfInBounds_toArray, List.set_cons_zero, List.set_cons_succ]
          refine wpDet_take (v := .agg #[.int .i64 x.no, .int .i64 x.kind, .int .i64 x.a, .int .i64 x.b, .int .i64 x.from_, .int .i64 x.until_, .int .i64 x.known, .int .i64 x.gone]) rfl (by kernel_rfl) (fun w0 hSw => ?_) ?_
          · obtain ⟨d0, d1, d2, d3, d4, d5, d6, d7⟩ := EK.out.below hSw hbr
            go_simp
          simp only [Act.put, List.getElem_toArray, List.getElem_cons_succ, List.getElem_cons_zero, List.setIfInBounds_toArray, List.set_cons_zero, List.set_cons_succ]
          refine wpDet_call (v := .bool true) rfl (by kernel_rfl) (fun w0 hSw K hK => ?_) ?_
          · go_simp
            go_at_call 51
            refine (HV.out _).mono ?_
            rintro e w9 ⟨rfl, hb⟩
            exact hK _ (hSw.trans (hb.mono hSw.size))
          simp only [Act.put, List.getElem_toArray, List.getElem_cons_succ, List.getElem_cons_zero, List.setIfInBounds_toArray, List.set_cons_zero, List.set_cons_succ]
          iterate 2
            refine wpDet_take (v := ?_) rfl (by kernel_rfl) (fun w0 hSw => ?_) ?_
            rotate_left 1
            · skip
              go_simp
              with_reducible rfl
            simp only [Act.put, List.getElem_toArray, List.getElem_cons_succ, List.getElem_cons_zero, List.setIfInBounds_toArray, List.set_cons_zero, List.set_cons_succ]
          iterate 3
            refine wpDet_take (v := ?_) rfl (by kernel_rfl) (fun w0 hSw => ?_) ?_
            rotate_left 1
            · skip
              go_simp
              with_reducible rfl
            simp only [Act.put, List.getElem_toArray, List.getElem_cons_succ, List.getElem_cons_zero, List.setIfInBounds_toArray, List.set_cons_zero, List.set_cons_succ]
          iterate 12
            refine wpDet_skip rfl (by kernel_rfl) ?_
            simp only [Act.put, List.getElem_toArray, List.getElem_cons_succ, List.getElem_cons_zero, List.setIfInBounds_toArray, List.set_cons_zero, List.set_cons_succ]
          iterate 1
            refine wpDet_take (v := ?_) rfl (by kernel_rfl) (fun w0 hSw => ?_) ?_
            rotate_left 1
            · skip
              go_simp
              with_reducible rfl
            simp only [Act.put, List.getElem_toArray, List.getElem_cons_succ, List.getElem_cons_zero, List.setIfInBounds_toArray, List.set_cons_zero, List.set_cons_succ]
          refine wpDet_done (fun wd hd => ?_)
          have hBd := hBr.trans (hd.mono hBr.size)
          clear s1 s2 s3 t0 t1
          go_wp2
          go_roundg (gk - 1)
          case measure => omega
          case rel => exact ⟨hBd, k + 1, by first | rfl | go_num, by omega, fun i hi => by
            have hk0 := HK0.out
            obtain rfl : i = k := by omega
            rw [HX.out]; exact ⟨HVB.out, fun h => by omega⟩⟩
        · have ej := EJ.out hk0
          obtain ⟨k', hk'⟩ : ∃ k', k = k' + 1 := ⟨k - 1, by omega⟩
          rw [show k - 1 = k' by omega] at ej
          have EJ2 := Lib.hid ej
          have s5 : (k : Int) - 1 = (k' : Int) := by omega
          have s6 : (0 : Int) ≤ (k' : Int) := by omega
          have s7 : (k' : Int) < l.length := by omega
          have s8 : ((k' : Int)).toNat = k' := by omega
          have s9 : decide ((0 : Int) < (k : Int)) = true := decide_eq_true (by omega)
          have s10 : 0 < k := hk0
          have s11 : IntKind.i64.wrap (k' : Int) = (k' : Int) := IntWalk.i64_in _ (by omega)
          have HK := Lib.hid hk'
          clear ej EJ hk0 hk'
          obtain ⟨bb, hbb⟩ : ∃ b, decide (x.no ≤ y.no) = b := ⟨_, rfl⟩
          have HBB := Lib.hid hbb
          cases bb with
          | true =>
            have hno : okL l = false := by
              cases ho : okL l with
              | false => rfl
              | true =>
                have h5 := (ok_is l _ ho k hlt).2 s10
                rw [HX.out, HY.out] at h5
                have h6 := of_decide_eq_true HBB.out
                omega
            have HNO := Lib.hid hno
            clear hno
            go_wp2
            refine wp_region_det 23 (fun w0 => Below wr.heap.size wr w0) (by kernel_rfl) (by kernel_rfl) (Below.refl _ _).drew ?_
            iterate 3
              refine wpDet_take (v := ?_) rfl (by kernel_rfl) (fun w0 hSw => ?_) ?_
              rotate_left 1
              · skip
                go_simp
                with_reducible rfl
              simp only [Act.put, List.getElem_toArray, List.getElem_cons_succ, List.getElem_cons_zero, List.setIfInBounds_toArray, List.set_cons_zero, List.set_cons_succ]
            refine wpDet_take (v := .agg #[.int .i64 x.no, .int .i64 x.kind, .int .i64 x.a, .int .i64 x.b, .int .i64 x.from_, .int .i64 x.until_, .int .i64 x.known, .int .i64 x.gone]) rfl (by kernel_rfl) (fun w0 hSw => ?_) ?_
            · obtain ⟨d0, d1, d2, d3, d4, d5, d6, d7⟩ := EK.out.below hSw hbr
              go_simp
            simp only [Act.put, List.getElem_toArray, List.getElem_cons_succ, List.getElem_cons_zero, List.setIfInBounds_toArray, List.set_cons_zero, List.set_cons_succ]
            refine wpDet_call (v := .bool true) rfl (by kernel_rfl) (fun w0 hSw K hK => ?_) ?_
            · go_simp
              go_at_call 51
              refine (HV.out _).mono ?_
              rintro e w9 ⟨rfl, hb⟩
              exact hK _ (hSw.trans (hb.mono hSw.size))
            simp only [Act.put, List.getElem_toArray, List.getElem_cons_succ, List.getElem_cons_zero, List.setIfInBounds_toArray, List.set_cons_zero, List.set_cons_succ]
            iterate 2
              refine wpDet_take (v := ?_) rfl (by kernel_rfl) (fun w0 hSw => ?_) ?_
              rotate_left 1
              · skip
                go_simp
                with_reducible rfl
              simp only [Act.put, List.getElem_toArray, List.getElem_cons_succ, List.getElem_cons_zero, List.setIfInBounds_toArray, List.set_cons_zero, List.set_cons_succ]
            iterate 16
              refine wpDet_take (v := ?_) rfl (by kernel_rfl) (fun w0 hSw => ?_) ?_
              rotate_left 1
              · obtain ⟨d0, d1, d2, d3, d4, d5, d6, d7⟩ := EK.out.below hSw hbr
                obtain ⟨c0, c1, c2, c3, c4, c5, c6, c7⟩ := EJ2.out.below hSw hbr
                go_simp
                with_reducible rfl
              simp only [Act.put, List.getElem_toArray, List.getElem_cons_succ, List.getElem_cons_zero, List.setIfInBounds_toArray, List.set_cons_zero, List.set_cons_succ]
            refine wpDet_done (fun wd hd => ?_)
            have hBd := hBr.trans (hd.mono hBr.size)
            clear s1 s2 s3 s5 s6 s7 s8 s9 s10 s11 hbb
            go_wp2
            rw [← HR.out, HNO.out]
            go_ret
            exact ⟨rfl, hBd⟩
          | false =>
            go_wp2
            refine wp_region_det 23 (fun w0 => Below wr.heap.size wr w0) (by kernel_rfl) (by kernel_rfl) (Below.refl _ _).drew ?_
            iterate 3
              refine wpDet_take (v := ?_) rfl (by kernel_rfl) (fun w0 hSw => ?_) ?_
              rotate_left 1
              · skip
                go_simp
                with_reducible rfl
              simp only [Act.put, List.getElem_toArray, List.getElem_cons_succ, List.getElem_cons_zero, List.setIfInBounds_toArray, List.set_cons_zero, List.set_cons_succ]
            refine wpDet_take (v := .agg #[.int .i64 x.no, .int .i64 x.kind, .int .i64 x.a, .int .i64 x.b, .int .i64 x.from_, .int .i64 x.until_, .int .i64 x.known, .int .i64 x.gone]) rfl (by kernel_rfl) (fun w0 hSw => ?_) ?_
            · obtain ⟨d0, d1, d2, d3, d4, d5, d6, d7⟩ := EK.out.below hSw hbr
              go_simp
            simp only [Act.put, List.getElem_toArray, List.getElem_cons_succ, List.getElem_cons_zero, List.setIfInBounds_toArray, List.set_cons_zero, List.set_cons_succ]
            refine wpDet_call (v := .bool true) rfl (by kernel_rfl) (fun w0 hSw K hK => ?_) ?_
            · go_simp
              go_at_call 51
              refine (HV.out _).mono ?_
              rintro e w9 ⟨rfl, hb⟩
              exact hK _ (hSw.trans (hb.mono hSw.size))
            simp only [Act.put, List.getElem_toArray, List.getElem_cons_succ, List.getElem_cons_zero, List.setIfInBounds_toArray, List.set_cons_zero, List.set_cons_succ]
            iterate 2
              refine wpDet_take (v := ?_) rfl (by kernel_rfl) (fun w0 hSw => ?_) ?_
              rotate_left 1
              · skip
                go_simp
                with_reducible rfl
              simp only [Act.put, List.getElem_toArray, List.getElem_cons_succ, List.getElem_cons_zero, List.setIfInBounds_toArray, List.set_cons_zero, List.set_cons_succ]
            iterate 16
              refine wpDet_take (v := ?_) rfl (by kernel_rfl) (fun w0 hSw => ?_) ?_
              rotate_left 1
              · obtain ⟨d0, d1, d2, d3, d4, d5, d6, d7⟩ := EK.out.below hSw hbr
                obtain ⟨c0, c1, c2, c3, c4, c5, c6, c7⟩ := EJ2.out.below hSw hbr
                go_simp
                with_reducible rfl
              simp only [Act.put, List.getElem_toArray, List.getElem_cons_succ, List.getElem_cons_zero, List.setIfInBounds_toArray, List.set_cons_zero, List.set_cons_succ]
            refine wpDet_done (fun wd hd => ?_)
            have hBd := hBr.trans (hd.mono hBr.size)
            clear s1 s2 s3 s5 s6 s7 s8 s9 s10 s11 hbb
            go_wp2
            go_roundg (gk - 1)
            case measure => omega
            case rel => exact ⟨hBd, k + 1, by first | rfl | go_num, by omega, fun i hi => by
              by_cases hik : i = k
              · subst hik
                rw [HX.out, HY.out]
                have h5 := of_decide_eq_false HBB.out
                exact ⟨HVB.out, fun _ => by omega⟩
              · exact HALL.out i (by omega)⟩
    · obtain rfl : k = l.length := by omega
      have hok := okL_of hall
      have HOK := Lib.hid hok
      clear hall hok
      go_wp2
      rw [← HR.out, HOK.out]
      go_ret
      exact ⟨rfl, hBr⟩
end Go.Proofs.YthckledagggoiaaGreatDoor
