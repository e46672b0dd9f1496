import Derived.Deep.Cut
import Derived.Test.YtaheibbbdglcmaaDoorChecked
import Derived.OpenShut
import Derived.ChangeSlices
import Derived.Deep.Slices
import Derived.Deep.Fields
import Derived.ChangeSame
import Derived.Carry
import Derived.ChangeMaps5
import Derived.Below
import Derived.Test.YtaheibbbdglcmaaDoorRows
import Derived.LaidMore
import Derived.Stop.Joined
import Derived.ProofKit
import Derived.Test.YtaheibbbdglcmaaDoorPkj
set_option linter.unusedSimpArgs false
set_option linter.unusedVariables false
namespace Go.Proofs.YtaheibbbdglcmaaDoor
open Go.RowKit Fk Sha
/-! What law 12's reference calls: Public; the form of proofs; what they commit to; Check. -/
set_option maxHeartbeats 400000 in
theorem rsecret_any (n : Int) (w : World) :
    Calls Tryd.prog 72 #[.int .i64 n] w fun e w' => e = .returned (.bool (secB n)) ∧ w = w' := by
  unfold secB
  by_cases h1 : 1 ≤ n
  · go_enter Tryd.func72, Tryd.ntmps72
    go_wp2
    go_ret
    exact ⟨by simp [h1], rfl⟩
  · have h2 : n < 1 := by omega
    have h3 : decide (1 ≤ n) = false := by simpa using h1
    clear h1
    go_enter Tryd.func72, Tryd.ntmps72
    go_wp2
    go_ret
    exact ⟨by simp [h3], rfl⟩

set_option maxHeartbeats 400000 in
theorem rpublic_any (n : Int) (w : World) :
    Calls Tryd.prog 44 #[.int .i64 n] w fun e w' => e = .returned (.tuple #[.int .i64 (pubC n), .int .i64 (pubE n)]) ∧ w = w' := by
  cases hs : secB n with
  | true =>
    have e1 : pubC n = powC 4 n := by simp [pubC, hs]
    have e2 : pubE n = 0 := by simp [pubE, hs]
    rw [e1, e2]
    clear e1 e2
    have hp := fun w => refpow_any 4 n w
    rw [powE_4] at hp
    generalize powC 4 n = p at *
    have HP := Lib.hid hp
    clear hp
    go_enter Tryd.func44, Tryd.ntmps44
    go_wp2_with (first | (go_at_call 72; refine (rsecret_any _ _).mono ?_; rintro e w1 ⟨rfl, rfl⟩) | (go_at_call 45; refine (HP.out _).mono ?_; rintro e w1 ⟨rfl, rfl⟩))
    go_ret2
    exact ⟨rfl, rfl⟩
  | false =>
    have e1 : pubC n = 0 := by simp [pubC, hs]
    have e2 : pubE n = 110 := by simp [pubE, hs]
    rw [e1, e2]
    clear e1 e2
    go_enter Tryd.func44, Tryd.ntmps44
    go_wp2_with (go_at_call 72; refine (rsecret_any _ _).mono ?_; rintro e w1 ⟨rfl, rfl⟩)
    go_ret2
    exact ⟨rfl, rfl⟩
set_option maxRecDepth 100000 in
set_option maxHeartbeats 4000000 in
theorem refform_any (key a d : Int) (p : Pf) (w : World) :
    Calls Tryd.prog 23 #[.int .i64 key, .int .i64 a, .int .i64 d, p.val] w fun e w' => e = .returned (.bool (frm key a d p)) ∧ Below w.heap.size w w' := by
  have hf : frm key a d p = ((vld key && (vld a && vld d)) && ((decide (0 ≤ p.e) && decide (p.e < 1073741789)) && (decide (0 ≤ p.s) && decide (p.s < 1073741789)))) := rfl
  have v1 := fun w => refvalid_any key w
  have v2 := fun w => refvalid_any a w
  have v3 := fun w => refvalid_any d w
  have r0 := Row.new w 34 [.int .i64 p.e, .int .i64 p.s]
  have hB := below_alloc' w (.cells #[.int .i64 p.e, .int .i64 p.s] 34)
  rw [hf]
  clear hf
  unfold Pf.val
  generalize p.e = pe at *
  generalize p.s = ps at *
  obtain ⟨W, hW⟩ : ∃ W, w.alloc (.cells #[.int .i64 pe, .int .i64 ps] 34) = W := ⟨_, rfl⟩
  replace r0 : Row W w.heap.size 34 [.int .i64 pe, .int .i64 ps] := hW ▸ r0
  rw [hW] at hB
  obtain ⟨c0, c1⟩ := st2 r0
  clear r0
  obtain ⟨x1, h1⟩ : ∃ x, vld key = x := ⟨_, rfl⟩
  obtain ⟨x2, h2⟩ : ∃ x, vld a = x := ⟨_, rfl⟩
  obtain ⟨x3, h3⟩ : ∃ x, vld d = x := ⟨_, rfl⟩
  obtain ⟨x4, h4⟩ : ∃ x, decide (0 ≤ pe) = x := ⟨_, rfl⟩
  obtain ⟨x5, h5⟩ : ∃ x, decide (pe < 1073741789) = x := ⟨_, rfl⟩
  obtain ⟨x6, h6⟩ : ∃ x, decide (0 ≤ ps) = x := ⟨_, rfl⟩
  obtain ⟨x7, h7⟩ : ∃ x, decide (ps < 1073741789) = x := ⟨_, rfl⟩
  rw [h1] at v1 ⊢
  rw [h2] at v2 ⊢
  rw [h3] at v3 ⊢
  rw [h4, h5, h6, h7]
  have V1 := Lib.hid v1
  have V2 := Lib.hid v2
  have V3 := Lib.hid v3
  clear v1 v2 v3 h1 h2 h3
  cases x1 with
  | false =>
    go_enter Tryd.func23, Tryd.ntmps23
    go_upto_region 1 with fail
    clear hW
    go_wp2_with (first
      | (go_at_call 27; (with_reducible refine (V1.out _).mono ?_); rintro e w1 ⟨rfl, rfl⟩)
      | (go_at_call 27; (with_reducible refine (V2.out _).mono ?_); rintro e w1 ⟨rfl, rfl⟩)
      | (go_at_call 27; (with_reducible refine (V3.out _).mono ?_); rintro e w1 ⟨rfl, rfl⟩))
    go_ret
    exact ⟨by simp, hB⟩
  | true =>
    cases x2 with
    | false =>
      go_enter Tryd.func23, Tryd.ntmps23
      go_upto_region 1 with fail
      clear hW
      go_wp2_with (first
        | (go_at_call 27; (with_reducible refine (V1.out _).mono ?_); rintro e w1 ⟨rfl, rfl⟩)
        | (go_at_call 27; (with_reducible refine (V2.out _).mono ?_); rintro e w1 ⟨rfl, rfl⟩)
        | (go_at_call 27; (with_reducible refine (V3.out _).mono ?_); rintro e w1 ⟨rfl, rfl⟩))
      go_ret
      exact ⟨by simp, hB⟩
    | true =>
      cases x3 with
      | false =>
        go_enter Tryd.func23, Tryd.ntmps23
        go_upto_region 1 with fail
        clear hW
        go_wp2_with (first
          | (go_at_call 27; (with_reducible refine (V1.out _).mono ?_); rintro e w1 ⟨rfl, rfl⟩)
          | (go_at_call 27; (with_reducible refine (V2.out _).mono ?_); rintro e w1 ⟨rfl, rfl⟩)
          | (go_at_call 27; (with_reducible refine (V3.out _).mono ?_); rintro e w1 ⟨rfl, rfl⟩))
        go_ret
        exact ⟨by simp, hB⟩
      | true =>
        cases x4 with
        | false =>
          go_enter Tryd.func23, Tryd.ntmps23
          go_upto_region 1 with fail
          clear hW
          go_wp2_with (first
            | (go_at_call 27; (with_reducible refine (V1.out _).mono ?_); rintro e w1 ⟨rfl, rfl⟩)
            | (go_at_call 27; (with_reducible refine (V2.out _).mono ?_); rintro e w1 ⟨rfl, rfl⟩)
            | (go_at_call 27; (with_reducible refine (V3.out _).mono ?_); rintro e w1 ⟨rfl, rfl⟩))
          go_ret
          exact ⟨by simp, hB⟩
        | true =>
          cases x5 with
          | false =>
            go_enter Tryd.func23, Tryd.ntmps23
            go_upto_region 1 with fail
            clear hW
            go_wp2_with (first
              | (go_at_call 27; (with_reducible refine (V1.out _).mono ?_); rintro e w1 ⟨rfl, rfl⟩)
              | (go_at_call 27; (with_reducible refine (V2.out _).mono ?_); rintro e w1 ⟨rfl, rfl⟩)
              | (go_at_call 27; (with_reducible refine (V3.out _).mono ?_); rintro e w1 ⟨rfl, rfl⟩))
            go_ret
            exact ⟨by simp, hB⟩
          | true =>
            cases x6 with
            | false =>
              go_enter Tryd.func23, Tryd.ntmps23
              go_upto_region 1 with fail
              clear hW
              go_wp2_with (first
                | (go_at_call 27; (with_reducible refine (V1.out _).mono ?_); rintro e w1 ⟨rfl, rfl⟩)
                | (go_at_call 27; (with_reducible refine (V2.out _).mono ?_); rintro e w1 ⟨rfl, rfl⟩)
                | (go_at_call 27; (with_reducible refine (V3.out _).mono ?_); rintro e w1 ⟨rfl, rfl⟩))
              go_ret
              exact ⟨by simp, hB⟩
            | true =>
              cases x7 with
              | false =>
                go_enter Tryd.func23, Tryd.ntmps23
                go_upto_region 1 with fail
                clear hW
                go_wp2_with (first
                  | (go_at_call 27; (with_reducible refine (V1.out _).mono ?_); rintro e w1 ⟨rfl, rfl⟩)
                  | (go_at_call 27; (with_reducible refine (V2.out _).mono ?_); rintro e w1 ⟨rfl, rfl⟩)
                  | (go_at_call 27; (with_reducible refine (V3.out _).mono ?_); rintro e w1 ⟨rfl, rfl⟩))
                go_ret
                exact ⟨by simp, hB⟩
              | true =>
                go_enter Tryd.func23, Tryd.ntmps23
                go_upto_region 1 with fail
                clear hW
                go_wp2_with (first
                  | (go_at_call 27; (with_reducible refine (V1.out _).mono ?_); rintro e w1 ⟨rfl, rfl⟩)
                  | (go_at_call 27; (with_reducible refine (V2.out _).mono ?_); rintro e w1 ⟨rfl, rfl⟩)
                  | (go_at_call 27; (with_reducible refine (V3.out _).mono ?_); rintro e w1 ⟨rfl, rfl⟩))
                go_ret
                exact ⟨by simp, hB⟩
set_option maxRecDepth 100000 in
theorem refmod_any (n : Int) (h : 0 ≤ n) (w : World) :
    Calls Tryd.prog 47 #[.int .i64 n] w fun e w' => e = .returned (.int .i64 (n % 1073741789)) ∧ w = w' := by
  go_enter Tryd.func47, Tryd.ntmps47
  go_wp2_with fail
  go_ret
  exact ⟨by first | rfl | go_num, rfl⟩
set_option maxRecDepth 100000 in
set_option maxHeartbeats 4000000 in
theorem refcommits_any (key a d : Int) (p : Pf) (hpe : inO p.e = true) (w : World) :
    Calls Tryd.prog 24 #[.int .i64 key, .int .i64 a, .int .i64 d, p.val] w fun e w' => e = .returned (.tuple #[.int .i64 (comR key p), .int .i64 (comS a d p)]) ∧ Below w.heap.size w w' := by
  have hw : IntKind.i64.wrap (-p.e) = -p.e := by
    unfold inO at hpe
    simp only [Bool.and_eq_true, decide_eq_true_eq] at hpe
    exact IntWalk.i64_in _ (by omega)
  have m1 := fun w => refpow_any 4 p.s w
  have m2 := fun w => refpow_any key (-p.e) w
  have m3 := fun w => refpow_any a p.s w
  have m4 := fun w => refpow_any d (-p.e) w
  have m5 := fun w => refmul_any (powC 4 p.s) (powC key (-p.e)) w
  have m6 := fun w => refmul_any (powC a p.s) (powC d (-p.e)) w
  have e1 : comR key p = mulC (powC 4 p.s) (powC key (-p.e)) := rfl
  have e2 : comS a d p = mulC (powC a p.s) (powC d (-p.e)) := rfl
  have r0 := Row.new w 34 [.int .i64 p.e, .int .i64 p.s]
  have hB := below_alloc' w (.cells #[.int .i64 p.e, .int .i64 p.s] 34)
  rw [e1, e2]
  clear e1 e2 hpe
  unfold Pf.val
  generalize p.e = pe at *
  generalize p.s = ps at *
  obtain ⟨x1, h1⟩ : ∃ x, powC 4 ps = x := ⟨_, rfl⟩
  obtain ⟨x2, h2⟩ : ∃ x, powC key (-pe) = x := ⟨_, rfl⟩
  obtain ⟨x3, h3⟩ : ∃ x, powC a ps = x := ⟨_, rfl⟩
  obtain ⟨x4, h4⟩ : ∃ x, powC d (-pe) = x := ⟨_, rfl⟩
  rw [h1] at m1 m5 ⊢
  rw [h2] at m2 m5 ⊢
  rw [h3] at m3 m6 ⊢
  rw [h4] at m4 m6 ⊢
  obtain ⟨x5, h5⟩ : ∃ x, mulC x1 x2 = x := ⟨_, rfl⟩
  obtain ⟨x6, h6⟩ : ∃ x, mulC x3 x4 = x := ⟨_, rfl⟩
  rw [h5] at m5 ⊢
  rw [h6] at m6 ⊢
  generalize powE 4 = z1 at *
  generalize powE key = z2 at *
  generalize powE a = z3 at *
  generalize powE d = z4 at *
  generalize mulE x1 x2 = z5 at *
  generalize mulE x3 x4 = z6 at *
  have M1 := Lib.hid m1
  have M2 := Lib.hid m2
  have M3 := Lib.hid m3
  have M4 := Lib.hid m4
  have M5 := Lib.hid m5
  have M6 := Lib.hid m6
  clear m1 m2 m3 m4 m5 m6 h1 h2 h3 h4 h5 h6
  obtain ⟨W, hW⟩ : ∃ W, w.alloc (.cells #[.int .i64 pe, .int .i64 ps] 34) = W := ⟨_, rfl⟩
  replace r0 : Row W w.heap.size 34 [.int .i64 pe, .int .i64 ps] := hW ▸ r0
  rw [hW] at hB
  obtain ⟨c0, c1⟩ := st2 r0
  clear r0
  go_enter Tryd.func24, Tryd.ntmps24
  go_upto_region 1 with fail
  clear hW
  go_wp2_with (first
    | (go_at_call 45; (with_reducible refine (M1.out _).mono ?_); rintro e w1 ⟨rfl, rfl⟩)
    | (go_at_call 45; (with_reducible refine (M2.out _).mono ?_); rintro e w1 ⟨rfl, rfl⟩)
    | (go_at_call 45; (with_reducible refine (M3.out _).mono ?_); rintro e w1 ⟨rfl, rfl⟩)
    | (go_at_call 45; (with_reducible refine (M4.out _).mono ?_); rintro e w1 ⟨rfl, rfl⟩)
    | (go_at_call 53; (with_reducible refine (M5.out _).mono ?_); rintro e w1 ⟨rfl, rfl⟩)
    | (go_at_call 53; (with_reducible refine (M6.out _).mono ?_); rintro e w1 ⟨rfl, rfl⟩))
  go_ret2
  exact ⟨rfl, hB⟩
end Go.Proofs.YtaheibbbdglcmaaDoor

set_option linter.unusedSimpArgs false
set_option linter.unusedVariables false
namespace Go.Proofs.YtaheibbbdglcmaaDoor
open Go.RowKit Fk Sha
/-! The reference's Check. -/
set_option maxRecDepth 100000 in
set_option maxHeartbeats 4000000 in
theorem refchal (key a d r s : Int) (hk : sm key) (ha : sm a) (hd : sm d) (hr : sm r) (hs : sm s) :
    (∀ W : World, Calls Tryd.prog 46 #[.slice (some ⟨W.heap.size, 0, none⟩) 5 5] (W.alloc (.cells #[.int .i64 key, .int .i64 a, .int .i64 d, .int .i64 r, .int .i64 s] 3)) fun e w' => ∃ v', e = .returned v' ∧ SlB w' w'.heap.size v' (encL [key, a, d, r, s]) ∧ capB v' ∧ Below W.heap.size W w') ∧
    (∀ (W : World) (v : Value), SlB W W.heap.size v (encL [key, a, d, r, s]) → capB v → Calls Tryd.prog 16 #[.string ⟨#[101, 113, 117, 97, 108]⟩, v] W fun e w' => e = .returned (.int .i64 (chalN key a d r s)) ∧ Below W.heap.size W w') := by
  have hsm := small5 hk ha hd hr hs
  have hlen := encL_len hsm (by simp)
  refine ⟨fun W => ?_, fun W v h1 h2 => refhash_any ⟨#[101, 113, 117, 97, 108]⟩ _ v W h1 h2 (by omega) (by decide)⟩
  have ht := reftext_any [key, a, d, r, s] _ _ (sl_newI W [key, a, d, r, s] #[.int .i64 key, .int .i64 a, .int .i64 d, .int .i64 r, .int .i64 s] rfl (by simp) 5 rfl) hsm (by simp)
  refine ht.mono ?_
  rintro e w' ⟨v', rfl, ho, hb⟩
  obtain ⟨q1, q2⟩ := own_slB ho rfl (by omega)
  exact ⟨v', rfl, q1, q2, (below_alloc' W _).trans (hb.mono (by simp))⟩
theorem refnon (n a : Int) (hn : sm n) (ha : sm a) :
    (∀ W : World, Calls Tryd.prog 46 #[.slice (some ⟨W.heap.size, 0, none⟩) 2 2] (W.alloc (.cells #[.int .i64 n, .int .i64 a] 3)) fun e w' => ∃ v', e = .returned v' ∧ SlB w' w'.heap.size v' (encL [n, a]) ∧ capB v' ∧ Below W.heap.size W w') ∧
    (∀ (W : World) (v : Value), SlB W W.heap.size v (encL [n, a]) → capB v → Calls Tryd.prog 16 #[.string ⟨#[101, 113, 117, 97, 108, 32, 110, 111, 110, 99, 101]⟩, v] W fun e w' => e = .returned (.int .i64 (nonceN n a)) ∧ Below W.heap.size W w') := by
  have hsm := small2 hn ha
  have hlen := encL_len hsm (by simp)
  refine ⟨fun W => ?_, fun W v h1 h2 => refhash_any ⟨#[101, 113, 117, 97, 108, 32, 110, 111, 110, 99, 101]⟩ _ v W h1 h2 (by omega) (by decide)⟩
  have ht := reftext_any [n, a] _ _ (sl_newI W [n, a] #[.int .i64 n, .int .i64 a] rfl (by simp) 2 rfl) hsm (by simp)
  refine ht.mono ?_
  rintro e w' ⟨v', rfl, ho, hb⟩
  obtain ⟨q1, q2⟩ := own_slB ho rfl (by omega)
  exact ⟨v', rfl, q1, q2, (below_alloc' W _).trans (hb.mono (by simp))⟩
set_option maxRecDepth 100000 in
set_option maxHeartbeats 4000000 in
theorem refcheck12_any (key a d : Int) (p : Pf) (w : World) :
    Calls Tryd.prog 22 #[.int .i64 key, .int .i64 a, .int .i64 d, p.val] w fun e w' => e = .returned (.bool (chkB key a d p)) ∧ Below w.heap.size w w' := by
  have hf := fun w => refform_any key a d p w
  have hck : chkB key a d p = (frm key a d p && decide (p.e = chalN key a d (comR key p) (comS a d p))) := rfl
  have r0 := Row.new w 34 [.int .i64 p.e, .int .i64 p.s]
  have hB := below_alloc' w (.cells #[.int .i64 p.e, .int .i64 p.s] 34)
  obtain ⟨W, hW⟩ : ∃ W, w.alloc (.cells #[.int .i64 p.e, .int .i64 p.s] 34) = W := ⟨_, rfl⟩
  replace r0 : Row W w.heap.size 34 [.int .i64 p.e, .int .i64 p.s] := hW ▸ r0
  rw [hW] at hB
  cases hfm : frm key a d p with
  | false =>
    rw [hfm] at hf hck
    rw [hck, Bool.false_and]
    clear hck hfm
    unfold Pf.val at hf ⊢
    generalize p.e = pe at *
    generalize p.s = ps at *
    have HF := Lib.hid hf
    clear hf
    obtain ⟨c0, c1⟩ := st2 r0
    have hz := r0.lt
    go_enter Tryd.func22, Tryd.ntmps22
    go_upto_region 1 with fail
    clear hW
    go_wp2_with (go_at_call 23; (with_reducible refine (HF.out _).mono ?_); rintro e w1 ⟨rfl, hb⟩)
    go_ret
    exact ⟨rfl, hB.trans (hb.mono hB.size)⟩
  | true =>
    have hpe : inO p.e = true := by unfold frm at hfm; simp only [Bool.and_eq_true] at hfm; exact hfm.2.1
    have hvk : vld key = true := by unfold frm at hfm; simp only [Bool.and_eq_true] at hfm; exact hfm.1.1
    have hva : vld a = true := by unfold frm at hfm; simp only [Bool.and_eq_true] at hfm; exact hfm.1.2.1
    have hvd : vld d = true := by unfold frm at hfm; simp only [Bool.and_eq_true] at hfm; exact hfm.1.2.2
    have hc := fun w => refcommits_any key a d p hpe w
    obtain ⟨hx, hh⟩ := refchal key a d (comR key p) (comS a d p) (sm_vld hvk) (sm_vld hva) (sm_vld hvd) (sm_vld (vld_mul (vld_powC vld_4 _) (vld_powC hvk _))) (sm_vld (vld_mul (vld_powC hva _) (vld_powC hvd _)))
    rw [hfm] at hf hck
    rw [hck, Bool.true_and]
    clear hck hfm hpe hvk hva hvd
    obtain ⟨E, hE⟩ : ∃ E, chalN key a d (comR key p) (comS a d p) = E := ⟨_, rfl⟩
    rw [hE] at hh ⊢
    obtain ⟨L, hL⟩ : ∃ L, encL [key, a, d, comR key p, comS a d p] = L := ⟨_, rfl⟩
    rw [hL] at hx hh
    unfold Pf.val at hf hc ⊢
    obtain ⟨R, hR⟩ : ∃ R, comR key p = R := ⟨_, rfl⟩
    obtain ⟨S, hS⟩ : ∃ S, comS a d p = S := ⟨_, rfl⟩
    rw [hR, hS] at hc hx
    generalize p.e = pe at *
    generalize p.s = ps at *
    have HF := Lib.hid hf
    have HC := Lib.hid hc
    have HX := Lib.hid hx
    have HH := Lib.hid hh
    clear hf hc hx hh hE hL hR hS
    obtain ⟨c0, c1⟩ := st2 r0
    have hz := r0.lt
    go_enter Tryd.func22, Tryd.ntmps22
    go_upto_region 1 with fail
    clear hW
    go_upto_region 4 with (first
      | (go_at_call 23; (with_reducible refine (HF.out _).mono ?_); rintro e w1 ⟨rfl, hb⟩; replace r0 := r0.below hb hz; replace hB := hB.trans (hb.mono hB.size); replace hz := r0.lt; clear hb c0 c1; obtain ⟨c0, c1⟩ := st2 r0)
      | (go_at_call 24; (with_reducible refine (HC.out _).mono ?_); rintro e w2 ⟨rfl, hb⟩; replace r0 := r0.below hb hz; replace hB := hB.trans (hb.mono hB.size); replace hz := r0.lt; clear hb c0 c1; obtain ⟨c0, c1⟩ := st2 r0))
    refine wp_region_ord 10 [(1, 0), (1, 1), (1, 2), (1, 3), (1, 4), (1, 5), (1, 6), (2, 7), (2, 8), (2, 9)] (fun w' => w'.cell? ⟨w.heap.size, 0, none⟩ = some (.int .i64 pe)) (by kernel_rfl) (by kernel_rfl) (fun _ _ d _ _ h => by cases d <;> exact h) c0 ?_
    have hs : ∀ W', Below w2.heap.size w2 W' → W'.cell? ⟨w.heap.size, 0, none⟩ = some (.int .i64 pe) := fun W' h => (h.cell (p := ⟨w.heap.size, 0, none⟩) hz).trans c0
    have HSS := Lib.hid hs
    have hD : Below w2.heap.size w2 w2.drew := (Below.refl _ _).drew
    clear c0 c1 r0 hs
    generalize w2.drew = W1 at *
    iterate 7
      refine wpOrd_take (v := ?_) rfl (by rfl) (fun w hSw => ?_) ?_
      rotate_left 1
      · go_simp
        with_reducible rfl
      simp only [Act.put, List.setIfInBounds_toArray, List.set_cons_zero, List.set_cons_succ]
    refine wpOrd_step rfl (fun K hK => ⟨by rfl, ?_⟩)
    go_simp
    refine hK _ _ (HSS.out _ (hD.alloc hD.size _)) ?_
    clear hK K
    try simp only [Act.put, List.setIfInBounds_toArray, List.set_cons_zero, List.set_cons_succ]
    refine wpOrd_step rfl (fun K hK => ⟨by rfl, ?_⟩)
    go_simp
    go_at_call 46
    refine (HX.out _).mono ?_
    rintro e w3 ⟨v3, rfl, q1, q2, hb⟩
    have hD3 := hD.trans (hb.mono hD.size)
    refine hK _ _ (HSS.out _ hD3) ?_
    clear hK K hb hD
    try simp only [Act.put, List.setIfInBounds_toArray, List.set_cons_zero, List.set_cons_succ]
    refine wpOrd_step rfl (fun K hK => ⟨by rfl, ?_⟩)
    go_simp
    go_at_call 16
    refine (HH.out _ _ q1 q2).mono ?_
    rintro e w4 ⟨rfl, hb⟩
    have hD4 := hD3.trans (hb.mono hD3.size)
    refine hK _ _ (HSS.out _ hD4) ?_
    clear hK K hb hD3 q1 q2
    try simp only [Act.put, List.setIfInBounds_toArray, List.set_cons_zero, List.set_cons_succ]
    refine wpOrd_nil ?_
    simp only [List.drop_succ_cons, List.drop_zero]
    go_wp2_with fail
    go_ret
    refine ⟨congrArg (fun x => Ending.returned (.bool x)) ?_, hB.trans (hD4.mono hB.size)⟩
    first | rfl | (by_cases h : pe = E <;> simp [h])
end Go.Proofs.YtaheibbbdglcmaaDoor

set_option linter.unusedSimpArgs false
set_option linter.unusedVariables false
namespace Go.Proofs.YtaheibbbdglcmaaDoor
open Go.RowKit Fk Sha
/-! The reference's Prove. -/
set_option maxRecDepth 100000 in
set_option maxHeartbeats 2000000 in
theorem rprove_sec (n a : Int) (h : secB n = false) (w : World) :
    Calls Tryd.prog 20 #[.int .i64 n, .int .i64 a] w fun e w' => e = .returned (.tuple #[.int .i64 0, .agg #[.int .i64 0, .int .i64 0], .int .i64 110]) ∧ Below w.heap.size w w' := by
  have hp := fun w => rpublic_any n w
  rw [show pubC n = 0 by unfold pubC; rw [h]; rfl, show pubE n = 110 by unfold pubE; rw [h]; rfl] at hp
  have HP := Lib.hid hp
  clear hp
  have r0 := Row.new w 34 [.int .i64 0, .int .i64 0]
  have hB := below_alloc' w (.cells #[.int .i64 0, .int .i64 0] 34)
  obtain ⟨p0, p1⟩ := st2 r0
  have y0 := r0.frozen 0
  have y1 := r0.frozen 1
  go_enter Tryd.func20, Tryd.ntmps20
  go_wp2_with (go_at_call 44; (with_reducible refine (HP.out _).mono ?_); rintro e w1 ⟨rfl, rfl⟩)
  have r1 := Row.store (Row.store r0 0 (.int .i64 0)) 1 (.int .i64 0)
  obtain ⟨p0, p1⟩ := st2 r1
  have hB6 := (hB.setCell (p := ⟨w.heap.size, 0, none⟩) (Nat.le_refl _) (.int .i64 0)).setCell (p := ⟨w.heap.size, 1, none⟩) (Nat.le_refl _) (.int .i64 0)
  first
  | exact bodyPost_ret (v := .tuple #[.int .i64 0, .agg #[.int .i64 0, .int .i64 0], .int .i64 110]) (by simp [results, Tryd.results20, go_sem, p0, p1]) rfl ⟨rfl, hB6⟩
  | exact bodyPost_ret (v := .tuple #[.int .i64 0, .agg #[.int .i64 0, .int .i64 0], .int .i64 110]) (by simp [results, Tryd.results20, go_sem]) rfl ⟨rfl, hB⟩
set_option maxRecDepth 100000 in
set_option maxHeartbeats 2000000 in
theorem rprove_elt (n a : Int) (h : secB n = true) (hv : vld a = false) (w : World) :
    Calls Tryd.prog 20 #[.int .i64 n, .int .i64 a] w fun e w' => e = .returned (.tuple #[.int .i64 0, .agg #[.int .i64 0, .int .i64 0], .int .i64 90]) ∧ Below w.heap.size w w' := by
  have hp := fun w => rpublic_any n w
  have hq := fun w => refpow_any a n w
  rw [pubE_0 h] at hp
  rw [show powC a n = 0 by unfold powC; rw [hv]; rfl, show powE a = 90 by unfold powE; rw [hv]; rfl] at hq
  obtain ⟨k, hk⟩ : ∃ k, pubC n = k := ⟨_, rfl⟩
  rw [hk] at hp
  have HP := Lib.hid hp
  have HQ := Lib.hid hq
  clear hp hq hk
  have r0 := Row.new w 34 [.int .i64 0, .int .i64 0]
  have hB := below_alloc' w (.cells #[.int .i64 0, .int .i64 0] 34)
  obtain ⟨p0, p1⟩ := st2 r0
  have y0 := r0.frozen 0
  have y1 := r0.frozen 1
  go_enter Tryd.func20, Tryd.ntmps20
  go_wp2_with (first
    | (go_at_call 44; (with_reducible refine (HP.out _).mono ?_); rintro e w1 ⟨rfl, rfl⟩)
    | (go_at_call 45; (with_reducible refine (HQ.out _).mono ?_); rintro e w1 ⟨rfl, rfl⟩))
  have r1 := Row.store (Row.store r0 0 (.int .i64 0)) 1 (.int .i64 0)
  obtain ⟨p0, p1⟩ := st2 r1
  have hB6 := (hB.setCell (p := ⟨w.heap.size, 0, none⟩) (Nat.le_refl _) (.int .i64 0)).setCell (p := ⟨w.heap.size, 1, none⟩) (Nat.le_refl _) (.int .i64 0)
  first
  | exact bodyPost_ret (v := .tuple #[.int .i64 0, .agg #[.int .i64 0, .int .i64 0], .int .i64 90]) (by simp [results, Tryd.results20, go_sem, p0, p1]) rfl ⟨rfl, hB6⟩
  | exact bodyPost_ret (v := .tuple #[.int .i64 0, .agg #[.int .i64 0, .int .i64 0], .int .i64 90]) (by simp [results, Tryd.results20, go_sem]) rfl ⟨rfl, hB⟩
set_option maxRecDepth 100000 in
set_option maxHeartbeats 4000000 in
theorem rprove_ok (n a : Int) (h : secB n = true) (hv : vld a = true) (w : World) :
    Calls Tryd.prog 20 #[.int .i64 n, .int .i64 a] w fun e w' => e = .returned (.tuple #[.int .i64 (powC a n), (provP n a).val, .int .i64 0]) ∧ Below w.heap.size w w' := by
  have hp := fun w => rpublic_any n w
  have hq := fun w => refpow_any a n w
  rw [pubE_0 h, show pubC n = powC 4 n by unfold pubC; rw [if_pos h]] at hp
  rw [show powE a = 0 by unfold powE; rw [if_pos hv]] at hq
  have hn : 1 ≤ n ∧ n < 1073741789 := by unfold secB at h; simpa using h
  obtain ⟨htx, hh⟩ := refnon n a ⟨by omega, by omega⟩ (sm_vld hv)
  have hnb := hashN_bd (tagged (sb ⟨#[101, 113, 117, 97, 108, 32, 110, 111, 110, 99, 101]⟩) (encL [n, a]))
  replace hnb : 0 ≤ nonceN n a ∧ nonceN n a < 1073741789 := hnb
  obtain ⟨hcx, hch⟩ := refchal (powC 4 n) a (powC a n) (powC 4 (nonceK n a)) (powC a (nonceK n a)) (sm_vld (vld_powC vld_4 n)) (sm_vld hv) (sm_vld (vld_powC hv n)) (sm_vld (vld_powC vld_4 _)) (sm_vld (vld_powC hv _))
  have hpp : provP n a = ⟨chalN (powC 4 n) a (powC a n) (powC 4 (nonceK n a)) (powC a (nonceK n a)), (nonceK n a + chalN (powC 4 n) a (powC a n) (powC 4 (nonceK n a)) (powC a (nonceK n a)) * n) % 1073741789⟩ := rfl
  have hcb := chalN_bd (powC 4 n) a (powC a n) (powC 4 (nonceK n a)) (powC a (nonceK n a))
  have hkk : nonceK n a = if nonceN n a = 0 then 1 else nonceN n a := rfl
  have he1 := fun w => refpow_any 4 (nonceK n a) w
  have he2 := fun w => refpow_any a (nonceK n a) w
  rw [show powE 4 = 0 by unfold powE; rw [if_pos vld_4]] at he1
  rw [show powE a = 0 by unfold powE; rw [if_pos hv]] at he2
  obtain ⟨E, hE⟩ : ∃ E, chalN (powC 4 n) a (powC a n) (powC 4 (nonceK n a)) (powC a (nonceK n a)) = E := ⟨_, rfl⟩
  rw [hE] at hpp hcb hch
  obtain ⟨L, hL⟩ : ∃ L, encL [powC 4 n, a, powC a n, powC 4 (nonceK n a), powC a (nonceK n a)] = L := ⟨_, rfl⟩
  rw [hL] at hcx hch
  obtain ⟨L2, hL2⟩ : ∃ L, encL [n, a] = L := ⟨_, rfl⟩
  rw [hL2] at htx hh
  obtain ⟨N, hN⟩ : ∃ N, nonceN n a = N := ⟨_, rfl⟩
  rw [hN] at hh hkk hnb
  obtain ⟨k, hk⟩ : ∃ k, nonceK n a = k := ⟨_, rfl⟩
  rw [hk] at hpp hkk hcx he1 he2
  rw [hpp]
  obtain ⟨X, hX⟩ : ∃ X, powC 4 n = X := ⟨_, rfl⟩
  obtain ⟨D, hD⟩ : ∃ D, powC a n = D := ⟨_, rfl⟩
  obtain ⟨R, hR⟩ : ∃ R, powC 4 k = R := ⟨_, rfl⟩
  obtain ⟨Z, hZ⟩ : ∃ Z, powC a k = Z := ⟨_, rfl⟩
  rw [hX] at hp hcx
  rw [hD] at hq hcx ⊢
  rw [hR] at he1 hcx
  rw [hZ] at he2 hcx
  have hkb : 1 ≤ k ∧ k < 1073741789 := by rw [hkk]; split <;> omega
  have hEn : 0 ≤ E * n ∧ E * n ≤ 1073741789 * 1073741789 := ⟨Int.mul_nonneg hcb.1 (by omega), Int.mul_le_mul (by omega) (by omega) (by omega) (by omega)⟩
  obtain ⟨M, hM⟩ : ∃ M, E * n = M := ⟨_, rfl⟩
  rw [hM] at hEn ⊢
  have hw1 : IntKind.i64.wrap (E * n) = M := by rw [hM]; exact IntWalk.i64_in _ (by omega)
  have hmd1 := fun w => refmod_any M hEn.1 w
  have hmd2 := fun w => refmod_any (k + M % 1073741789) (by omega) w
  have hw2 : IntKind.i64.wrap (k + M % 1073741789) = k + M % 1073741789 := IntWalk.i64_in _ (by omega)
  have hsum : (k + M % 1073741789) % 1073741789 = (k + M) % 1073741789 := by omega
  have hzb : k + M % 1073741789 < 4294967296 ∧ 0 ≤ k + M % 1073741789 := by omega
  obtain ⟨M2, hM2⟩ : ∃ x, M % 1073741789 = x := ⟨_, rfl⟩
  rw [hM2] at hmd1 hmd2 hw2 hsum hzb
  obtain ⟨M3, hM3⟩ : ∃ x, k + M2 = x := ⟨_, rfl⟩
  rw [hM3] at hmd2 hsum
  obtain ⟨M4, hM4⟩ : ∃ x, M3 % 1073741789 = x := ⟨_, rfl⟩
  rw [hM4] at hmd2 hsum
  have HW := Lib.hid hsum
  have HP := Lib.hid hp
  have HQ := Lib.hid hq
  have HTX := Lib.hid htx
  have HH := Lib.hid hh
  have HCX := Lib.hid hcx
  have HC := Lib.hid hch
  have HE1 := Lib.hid he1
  have HE2 := Lib.hid he2
  have HM1 := Lib.hid hmd1
  have HM2 := Lib.hid hmd2
  clear hp hq htx hh hch hcx hpp hE hN hX hD hR hZ hL hL2 hk he1 he2 hmd1 hmd2 hsum
  unfold Pf.val
  have r0 := Row.new w 34 [.int .i64 0, .int .i64 0]
  have hB := below_alloc' w (.cells #[.int .i64 0, .int .i64 0] 34)
  have hz : w.heap.size < (w.alloc (.cells #[.int .i64 0, .int .i64 0] 34)).heap.size := by simp
  obtain ⟨W, hW⟩ : ∃ W, w.alloc (.cells #[.int .i64 0, .int .i64 0] 34) = W := ⟨_, rfl⟩
  replace r0 : Row W w.heap.size 34 [.int .i64 0, .int .i64 0] := hW ▸ r0
  rw [hW] at hB hz
  have fin : ∀ W : World, Row W w.heap.size 34 [.int .i64 0, .int .i64 0] → Row ((W.setCell ⟨w.heap.size, 0, none⟩ (.int .i64 E)).setCell ⟨w.heap.size, 1, none⟩ (.int .i64 M4)) w.heap.size 34 [.int .i64 E, .int .i64 M4] := fun W hr => Row.store (Row.store hr 0 _) 1 _
  have FIN := Lib.hid fin
  clear fin
  by_cases hN0 : N = 0
  · have hk1 : k = 1 := by rw [hkk, if_pos hN0]
    clear hkk
    subst hN0 hk1
    go_enter Tryd.func20, Tryd.ntmps20
    go_upto_region 1 with fail
    clear hW
    go_upto_region 13 with (first
      | (go_at_call 44; (with_reducible refine (HP.out _).mono ?_); rintro e w1 ⟨rfl, rfl⟩)
      | (go_at_call 45; (with_reducible refine (HQ.out _).mono ?_); rintro e w2 ⟨rfl, rfl⟩)
      | (go_at_call 46; (with_reducible refine (HTX.out _).mono ?_); rintro e w3 ⟨v3, rfl, q1, q2, hb⟩; replace r0 := r0.below hb hz; replace hB := hB.trans (hb.mono hB.size); replace hz := r0.lt; clear hb)
      | (go_at_call 16; (with_reducible refine (HH.out _ _ q1 q2).mono ?_); rintro e w4 ⟨rfl, hb⟩; replace r0 := r0.below hb hz; replace hB := hB.trans (hb.mono hB.size); replace hz := r0.lt; clear hb q1 q2)
      | (go_at_call 45; (with_reducible refine (HE1.out _).mono ?_); rintro e w2 ⟨rfl, rfl⟩)
      | (go_at_call 45; (with_reducible refine (HE2.out _).mono ?_); rintro e w2 ⟨rfl, rfl⟩)
      | (go_at_call 46; (with_reducible refine (HCX.out _).mono ?_); rintro e w5 ⟨v5, rfl, q3, q4, hb⟩; replace r0 := r0.below hb hz; replace hB := hB.trans (hb.mono hB.size); replace hz := r0.lt; clear hb)
      | (go_at_call 16; (with_reducible refine (HC.out _ _ q3 q4).mono ?_); rintro e w6 ⟨rfl, hb⟩; replace r0 := r0.below hb hz; replace hB := hB.trans (hb.mono hB.size); replace hz := r0.lt; clear hb q3 q4))
    obtain ⟨c0, c1⟩ := st2 r0
    have y0 := r0.frozen 0
    have y1 := r0.frozen 1
    go_wp2_with (first
      | (go_at_call 47; (with_reducible refine (HM1.out _).mono ?_); rintro e w7 ⟨rfl, rfl⟩)
      | (go_at_call 47; (with_reducible refine (HM2.out _).mono ?_); rintro e w7 ⟨rfl, rfl⟩))
    obtain ⟨p0, p1⟩ := st2 (FIN.out _ r0)
    exact bodyPost_ret (v := .tuple #[.int .i64 D, .agg #[.int .i64 E, .int .i64 M4], .int .i64 0]) (by simp [results, Tryd.results20, go_sem, p0, p1]) rfl ⟨by rw [HW.out], (hB.setCell (p := ⟨w.heap.size, 0, none⟩) (Nat.le_refl _) _).setCell (p := ⟨w.heap.size, 1, none⟩) (Nat.le_refl _) _⟩
  · have hk1 : k = N := by rw [hkk, if_neg hN0]
    clear hkk
    subst hk1
    have hn0 : (k == 0) = false := beq_eq_false_iff_ne.2 hN0
    clear hN0
    go_enter Tryd.func20, Tryd.ntmps20
    go_upto_region 1 with fail
    clear hW
    go_upto_region 13 with (first
      | (go_at_call 44; (with_reducible refine (HP.out _).mono ?_); rintro e w1 ⟨rfl, rfl⟩)
      | (go_at_call 45; (with_reducible refine (HQ.out _).mono ?_); rintro e w2 ⟨rfl, rfl⟩)
      | (go_at_call 46; (with_reducible refine (HTX.out _).mono ?_); rintro e w3 ⟨v3, rfl, q1, q2, hb⟩; replace r0 := r0.below hb hz; replace hB := hB.trans (hb.mono hB.size); replace hz := r0.lt; clear hb)
      | (go_at_call 16; (with_reducible refine (HH.out _ _ q1 q2).mono ?_); rintro e w4 ⟨rfl, hb⟩; replace r0 := r0.below hb hz; replace hB := hB.trans (hb.mono hB.size); replace hz := r0.lt; clear hb q1 q2)
      | (go_at_call 45; (with_reducible refine (HE1.out _).mono ?_); rintro e w2 ⟨rfl, rfl⟩)
      | (go_at_call 45; (with_reducible refine (HE2.out _).mono ?_); rintro e w2 ⟨rfl, rfl⟩)
      | (go_at_call 46; (with_reducible refine (HCX.out _).mono ?_); rintro e w5 ⟨v5, rfl, q3, q4, hb⟩; replace r0 := r0.below hb hz; replace hB := hB.trans (hb.mono hB.size); replace hz := r0.lt; clear hb)
      | (go_at_call 16; (with_reducible refine (HC.out _ _ q3 q4).mono ?_); rintro e w6 ⟨rfl, hb⟩; replace r0 := r0.below hb hz; replace hB := hB.trans (hb.mono hB.size); replace hz := r0.lt; clear hb q3 q4))
    obtain ⟨c0, c1⟩ := st2 r0
    have y0 := r0.frozen 0
    have y1 := r0.frozen 1
    go_wp2_with (first
      | (go_at_call 47; (with_reducible refine (HM1.out _).mono ?_); rintro e w7 ⟨rfl, rfl⟩)
      | (go_at_call 47; (with_reducible refine (HM2.out _).mono ?_); rintro e w7 ⟨rfl, rfl⟩))
    obtain ⟨p0, p1⟩ := st2 (FIN.out _ r0)
    exact bodyPost_ret (v := .tuple #[.int .i64 D, .agg #[.int .i64 E, .int .i64 M4], .int .i64 0]) (by simp [results, Tryd.results20, go_sem, p0, p1]) rfl ⟨by rw [HW.out], (hB.setCell (p := ⟨w.heap.size, 0, none⟩) (Nat.le_refl _) _).setCell (p := ⟨w.heap.size, 1, none⟩) (Nat.le_refl _) _⟩
theorem rprove_any (n a : Int) (w : World) :
    Calls Tryd.prog 20 #[.int .i64 n, .int .i64 a] w fun e w' => e = .returned (.tuple #[.int .i64 (provD n a), (provR n a).val, .int .i64 (provE n a)]) ∧ Below w.heap.size w w' := by
  unfold provD provR provE provOK
  cases h : secB n with
  | false => exact rprove_sec n a h w
  | true =>
    cases hv : vld a with
    | false => exact rprove_elt n a h hv w
    | true => exact rprove_ok n a h hv w
end Go.Proofs.YtaheibbbdglcmaaDoor

namespace Go.Proofs.YtaheibbbdglcmaaDoor
open Go.RowKit Go.WideShapes Go.ChangeShapes Go.Deep Fk
/-! Arguments that are slices, opened to lists; and closed again. -/
section
variable {H : Type} {enc : TypeId × Value → H} {P : Program} {w : World} {base : Nat} {spare : Nat → Bool} {held : Bool}
theorem cell_addr {w : World} {a : Addr} {v : Value} (h : w.cell? a = some v) : a.spot = none ∧ a.block < w.heap.size := by
  unfold World.cell? at h
  split at h
  · rename_i c t r hk
    refine ⟨?_, (Array.getElem?_eq_some_iff.1 hk).1⟩
    cases hs : a.spot with
    | none => rfl
    | some x => rw [hs] at h; simp at h
  · cases h
theorem addr_add (b off k : Nat) : (Addr.add ⟨b, off, none⟩ k) = ⟨b, off + k, none⟩ := by
  unfold Addr.add; split
  · subst k; rfl
  · rfl
theorem sl_of_cells {α : Type} [Inhabited α] {m : Nat} {en : α → List Value} {Q : α → Prop} {w : World} {a : Addr} {len cap : Nat} (hm : 0 < m) (hl : len ≤ 9223372036854775807)
    (h : ∀ i, i < len → ∃ x : α, Q x ∧ ∀ j, j < m → w.cell? (a.add (i * m + j)) = some ((en x).getD j undef)) :
    ∃ l : List α, SlG m en w w.heap.size (.slice (some a) len cap) l ∧ ∀ i, i < l.length → Q (l.getD i default) := by
  have hc : ∃ f : Nat → α, ∀ i, i < len → Q (f i) ∧ ∀ j, j < m → w.cell? (a.add (i * m + j)) = some ((en (f i)).getD j undef) := by
    refine ⟨fun i => if hi : i < len then Classical.choose (h i hi) else default, fun i hi => ?_⟩
    simp only [dif_pos hi]
    exact Classical.choose_spec (h i hi)
  obtain ⟨f, hf⟩ := hc
  have hlen : ((List.range len).map f).length = len := by simp
  have hget : ∀ i, i < len → ((List.range len).map f).getD i default = f i := fun i hi => by
    rw [List.getD_eq_getElem?_getD, List.getElem?_map, List.getElem?_range hi]; rfl
  refine ⟨(List.range len).map f, ⟨by omega, some a, cap, by rw [hlen], fun hp => ?_⟩, fun i hi => by rw [hget i (by omega)]; exact (hf i (by omega)).1⟩
  have h0 := (hf 0 (by omega)).2 0 hm
  rw [show 0 * m + 0 = 0 by omega] at h0
  obtain ⟨b, off, sp⟩ := a
  have h0' : w.cell? ⟨b, off, sp⟩ = some ((en (f 0)).getD 0 undef) := h0
  obtain ⟨hs, hb⟩ := cell_addr h0'
  simp only at hs hb
  subst hs
  refine ⟨b, off, rfl, hb, fun i hi j hj => ?_⟩
  rw [hget i (by omega)]
  have := (hf i (by omega)).2 j hj
  rw [addr_add] at this
  rwa [Nat.add_assoc]
theorem trod_keep {t : TypeId} (hl : laidOutB P = true) (hr : P.readableRec t = true) (hrow : t < P.types.size) {W W' : World} {v : Value} {d : DataW H} {ps : List MemPlace} {sp : Nat → Bool}
    (h : DataW.Trod enc P W 0 (fun _ => true) true t v d ps) (hb : Below W.heap.size W W') (hlt : ∀ x ∈ ps, x.block < W.heap.size) (hsp : ∀ x ∈ ps, sp x.block = true) : DataW.Trod enc P W' 0 sp true t v d ps :=
  WideElems.Trod_stays hl hr hrow h (fun x hx => hb.same (hlt x hx)) hsp
theorem open_slice_fields {t e : TypeId} {fs : Array Field} {fuel : Nat} {cs : List Value} {x : DataW H × List MemPlace} (ht : P.underlying t = some (.slice e)) (he : P.underlying e = some (.struct fs))
    (hone : oneCellFields P fs = true) (hC : P.cellsOf e = fs.size) (h : DataW.trod enc P w base spare held fuel t cs = some x) :
    (cs = [.slice none 0 0]) ∨
    ∃ (a : Addr) (len cap : Nat), cs = [.slice (some a) len cap] ∧ len ≤ cap ∧ cap ≤ maxLen ∧
      ∀ i, i < len → ∀ (j : Nat) (f : Field), fs[j]? = some f → ∃ (v : Value) (y : DataW H × List MemPlace) (n : Nat), w.cell? (a.add (i * fs.size + j)) = some v ∧ DataW.trod enc P w base spare held n f.type [v] = some y := by
  rcases open_slice ht h with h0 | ⟨a, len, cap, m, n, D, Pl, hcs, hb, hl, hm, hmm, hx, hi⟩
  · exact .inl h0.1
  · refine .inr ⟨a, len, cap, hcs, hl, hm, fun i him j f hj => ?_⟩
    obtain ⟨cs', hc, ht'⟩ := hi i (by rw [hmm]; split <;> omega)
    rw [hC] at hc
    obtain ⟨ys, n', hn', hy, hlen, hyl, hf⟩ := DataW.trod_struct he ht'
    obtain ⟨_, hcl, hat⟩ := World.cells?_some hc
    obtain ⟨ho, hk⟩ := hone_of hone j f hj
    have hjl : j < fs.size := (Array.getElem?_eq_some_iff.1 hj).1
    have hcell := hat j hjl
    have hv : cs'[j]? = some (cs'[j]'(by omega)) := List.getElem?_eq_getElem (by omega)
    have h1 := hf j f hj
    rw [ho, hk] at h1
    have hone' : (cs'.drop j).take 1 = [cs'[j]'(by omega)] := by
      rw [List.drop_eq_getElem_cons (by omega)]
      rfl
    rw [hone'] at h1
    have hys : ys[j]? = some (ys[j]'(by omega)) := List.getElem?_eq_getElem (by omega)
    refine ⟨_, _, _, ?_, h1.trans hys⟩
    rw [← Go.Deep.add_add, hcell, hv]
end
theorem cells_slice (a : Option Addr) (n c : Nat) : (Value.slice a n c).cells.toList = [.slice a n c] := by simp [Value.cells]
section
variable {H : Type} {enc : TypeId × Value → H} {w : World} {base : Nat} {r : Reach}
def wfI (n : Int) : Prop := (Lit.int .i64 n).wf = true
set_option maxRecDepth 100000 in
theorem open_sl_int {v : Value} {d : DataW H} {p : List MemPlace} (hv : Value.okWide Tryd.prog w r base 101 v) (h : DataW.Trod enc Tryd.prog w 0 (fun _ => true) true 101 v d p) :
    ∃ l : List Int, SlI w w.heap.size v l ∧ ∀ i, i < l.length → wfI (l.getD i default) := by
  obtain ⟨a, len, cap, rfl⟩ := okWide_slice Tryd.underlying101 hv
  obtain ⟨fuel, hf⟩ := h
  rw [cells_slice] at hf
  rcases open_ints Tryd.underlying101 Tryd.underlying3 (by kernel_rfl) hf with ⟨hcs, _⟩ | ⟨a', len', cap', zs, hcs, _, hl, hm, hz, _, hcell, hwf⟩
  · obtain ⟨rfl, rfl, rfl⟩ : a = none ∧ len = 0 ∧ cap = 0 := by simpa using hcs
    exact ⟨[], SlG.nil_ _ _, fun i hi => absurd hi (by simp)⟩
  · obtain ⟨rfl, rfl, rfl⟩ : a = some a' ∧ len = len' ∧ cap = cap' := by simpa using hcs
    simp only [if_true] at hz
    refine sl_of_cells (m := 1) (en := encI) (Q := wfI) (by omega) (by unfold maxLen at hm; omega) (fun i hi => ⟨zs.getD i 0, ?_, fun j hj => ?_⟩)
    · refine hwf _ ?_
      rw [List.getD_eq_getElem?_getD, List.getElem?_eq_getElem (by omega)]
      exact List.getElem_mem _
    · obtain rfl : j = 0 := by omega
      rw [Nat.mul_one, Nat.add_zero]
      exact hcell i (by omega)
end
end Go.Proofs.YtaheibbbdglcmaaDoor

namespace Go.Proofs.YtaheibbbdglcmaaDoor
open Go.RowKit Go.WideShapes Go.ChangeShapes Go.ChangeMaps Go.Deep Fk Sha
/-! Bytes and strings as arguments. -/
section
variable {H : Type} {enc : TypeId × Value → H} {w : World} {base : Nat} {r : Reach}
set_option maxRecDepth 100000 in
theorem open_str {v : Value} {d : DataW H} {p : List MemPlace} (hv : Value.okWide Tryd.prog w r base 9 v) (h : DataW.Trod enc Tryd.prog w 0 (fun _ => true) true 9 v d p) :
    ∃ s : ByteArray, v = .string s ∧ s.size ≤ maxLen := by
  obtain ⟨s, rfl, _, _, h2⟩ := open_string Tryd.underlying9 hv h
  exact ⟨s, rfl, h2⟩
set_option maxRecDepth 100000 in
theorem open_sl_b {v : Value} {d : DataW H} {p : List MemPlace} (hv : Value.okWide Tryd.prog w r base 22 v) (h : DataW.Trod enc Tryd.prog w 0 (fun _ => true) true 22 v d p) :
    ∃ l : List B, SlB w w.heap.size v l ∧ capB v := by
  obtain ⟨a, len, cap, rfl⟩ := okWide_slice Tryd.underlying22 hv
  obtain ⟨fuel, hf⟩ := h
  rw [cells_slice] at hf
  rcases open_ints Tryd.underlying22 Tryd.underlying5 (by kernel_rfl) hf with ⟨hcs, _⟩ | ⟨a', len', cap', zs, hcs, _, hl, hm, hz, _, hcell, hwf⟩
  · obtain ⟨rfl, rfl, rfl⟩ : a = none ∧ len = 0 ∧ cap = 0 := by simpa using hcs
    exact ⟨[], SlG.nil_ _ _, none, 0, 0, rfl, Nat.le_refl _, by omega, fun _ => rfl⟩
  · obtain ⟨rfl, rfl, rfl⟩ : a = some a' ∧ len = len' ∧ cap = cap' := by simpa using hcs
    simp only [if_true] at hz
    unfold maxLen at hm
    obtain ⟨l, h1, _⟩ := sl_of_cells (m := 1) (en := encB) (a := a') (len := len) (cap := cap) (w := w) (Q := fun _ => True) (by omega) (by omega) (fun i hi => ⟨BitVec.ofNat 8 (zs.getD i 0).toNat, trivial, fun j hj => by
      obtain rfl : j = 0 := by omega
      rw [Nat.mul_one, Nat.add_zero, hcell i (by omega)]
      have hw := hwf (zs.getD i 0) (by
        rw [List.getD_eq_getElem?_getD, List.getElem?_eq_getElem (by omega)]
        exact List.getElem_mem _)
      show some _ = some (bv _)
      unfold bv bn
      have hb : 0 ≤ zs.getD i 0 ∧ zs.getD i 0 ≤ 255 := bounds_u8 hw
      rw [BitVec.toNat_ofNat, Nat.mod_eq_of_lt (by omega), Int.toNat_of_nonneg hb.1]⟩)
    exact ⟨l, h1, some a', len, cap, rfl, hl, by omega, fun h => by cases h⟩
end
end Go.Proofs.YtaheibbbdglcmaaDoor

namespace Go.Proofs.YtaheibbbdglcmaaDoor
open Go.RowKit Go.WideShapes Go.ChangeShapes Fk
section
variable {H : Type} {enc : TypeId × Value → H} {P : Program} {w : World} {base base' : Nat} {r : Reach} {sp : Nat → Bool} {held : Bool}
theorem okWide_array {t e : TypeId} {n : Nat} {v : Value} (ht : P.underlying t = some (.array n e)) (h : Value.okWide P w r base t v) : ∃ cs, v = .agg cs ∧ cs.size = P.cellsOf t := by
  simp only [Value.okWide, ht] at h
  obtain ⟨cs, h1, h2, _⟩ := h
  exact ⟨cs, h1, h2⟩
theorem three_of {cs : Array Value} (h : cs.size = 3) : ∃ a b c, cs = #[a, b, c] := by
  obtain ⟨l⟩ := cs
  match l, h with
  | [a, b, c], _ => exact ⟨a, b, c, rfl⟩
theorem six_of {cs : Array Value} (h : cs.size = 6) : ∃ a b c d e f, cs = #[a, b, c, d, e, f] := by
  obtain ⟨l⟩ := cs
  match l, h with
  | [a, b, c, d, e, f], _ => exact ⟨a, b, c, d, e, f, rfl⟩
theorem some_at {α : Type} {l : List α} {n i : Nat} (h : l.length = n) (hi : i < n) : ∃ x, l[i]? = some x := ⟨l[i]'(by omega), List.getElem?_eq_getElem (by omega)⟩
/-- an array of three integers -/
theorem open_tri {t e : TypeId} {k : IntKind} {v : Value} {d : DataW H} {p : List MemPlace} (ht : P.underlying t = some (.array 3 e)) (he : P.underlying e = some (.int k)) (hc : P.cellsOf t = 3) (hce : P.cellsOf e = 1)
    (hv : Value.okWide P w r base t v) (h : DataW.Trod enc P w base' sp held t v d p) :
    ∃ a b c : Int, v = .agg #[.int k a, .int k b, .int k c] ∧ (Lit.int k a).wf = true ∧ (Lit.int k b).wf = true ∧ (Lit.int k c).wf = true := by
  obtain ⟨cs, rfl, hs⟩ := okWide_array ht hv
  obtain ⟨x0, x1, x2, rfl⟩ := three_of (hs.trans hc)
  obtain ⟨fuel, hf⟩ := h
  obtain ⟨xs, m, _, _, _, hl, hi⟩ := DataW.trod_array ht hf
  simp only [hce, Nat.mul_one] at hi
  obtain ⟨y0, g0⟩ := some_at hl (show 0 < 3 by omega)
  obtain ⟨y1, g1⟩ := some_at hl (show 1 < 3 by omega)
  obtain ⟨y2, g2⟩ := some_at hl (show 2 < 3 by omega)
  obtain ⟨a, e0, _, w0⟩ := DataW.trod_int he ((hi 0 (by omega)).trans g0)
  obtain ⟨b, e1, _, w1⟩ := DataW.trod_int he ((hi 1 (by omega)).trans g1)
  obtain ⟨c, e2, _, w2⟩ := DataW.trod_int he ((hi 2 (by omega)).trans g2)
  simp [Value.cells] at e0 e1 e2
  subst e0 e1 e2
  exact ⟨a, b, c, rfl, w0, w1, w2⟩
/-- an array of three structs of two integers -/
theorem open_six {t e i : TypeId} {fs : Array Field} {v : Value} {d : DataW H} {p : List MemPlace} (ht : P.underlying t = some (.array 3 e)) (he : P.underlying e = some (.struct fs)) (hc : P.cellsOf t = 6) (hce : P.cellsOf e = 2)
    (hi : P.underlying i = some (.int .i64)) (hci : P.cellsOf i = 1) {f0 f1 : Field} (hf0 : fs[0]? = some f0) (hf1 : fs[1]? = some f1) (h00 : f0.offset = 0) (h01 : f1.offset = 1) (ht0 : f0.type = i) (ht1 : f1.type = i)
    (hv : Value.okWide P w r base t v) (h : DataW.Trod enc P w base' sp held t v d p) :
    ∃ s : Se, v = s.val := by
  obtain ⟨cs, rfl, hs⟩ := okWide_array ht hv
  obtain ⟨x0, x1, x2, x3, x4, x5, rfl⟩ := six_of (hs.trans hc)
  obtain ⟨fuel, hf⟩ := h
  obtain ⟨xs, m, _, _, _, hl, hel⟩ := DataW.trod_array ht hf
  simp only [hce] at hel
  have key : ∀ k, k < 3 → ∃ a b : Int, (([x0, x1, x2, x3, x4, x5] : List Value).drop (k * 2)).take 2 = [.int .i64 a, .int .i64 b] := by
    intro k hk
    obtain ⟨y, g⟩ := some_at hl hk
    have h1 := (hel k hk).trans g
    obtain ⟨ys, n, _, _, hlen, hyl, hfs⟩ := DataW.trod_struct he h1
    have hfz : 1 < fs.size := (Array.getElem?_eq_some_iff.1 hf1).1
    obtain ⟨z0, g0⟩ := some_at hyl (show 0 < fs.size by omega)
    obtain ⟨z1, g1⟩ := some_at hyl hfz
    have a0 := (hfs 0 f0 hf0).trans g0
    have a1 := (hfs 1 f1 hf1).trans g1
    rw [h00, ht0, hci] at a0
    rw [h01, ht1, hci] at a1
    obtain ⟨a, e0, _, _⟩ := DataW.trod_int hi a0
    obtain ⟨b, e1, _, _⟩ := DataW.trod_int hi a1
    refine ⟨a, b, ?_⟩
    simp only [Value.cells] at e0 e1
    rcases (show k = 0 ∨ k = 1 ∨ k = 2 by omega) with rfl | rfl | rfl <;> (simp at e0 e1 ⊢; exact ⟨e0, e1⟩)
  obtain ⟨a0, b0, k0⟩ := key 0 (by omega)
  obtain ⟨a1, b1, k1⟩ := key 1 (by omega)
  obtain ⟨a2, b2, k2⟩ := key 2 (by omega)
  simp at k0 k1 k2
  obtain ⟨rfl, rfl⟩ := k0
  obtain ⟨rfl, rfl⟩ := k1
  obtain ⟨rfl, rfl⟩ := k2
  exact ⟨⟨⟨a0, b0⟩, ⟨a1, b1⟩, ⟨a2, b2⟩⟩, rfl⟩
end
section
variable {H : Type} {enc : TypeId × Value → H} {w : World} {base : Nat} {r : Reach}
def wfT (t : Tr) : Prop := ((Lit.int .i64 t.p).wf = true ∧ (Lit.int .i64 t.q).wf = true ∧ (Lit.int .i64 t.r).wf = true)
set_option maxRecDepth 100000 in
theorem open_words {v : Value} {d : DataW H} {p : List MemPlace} (hv : Value.okWide Tryd.prog w r base 50 v) (h : DataW.Trod enc Tryd.prog w 0 (fun _ => true) true 50 v d p) : ∃ t : Tr, v = t.val ∧ wfT t := by
  obtain ⟨a, b, c, rfl, h1, h2, h3⟩ := open_tri Tryd.underlying50 Tryd.underlying3 (by kernel_rfl) (by kernel_rfl) hv h
  exact ⟨⟨a, b, c⟩, rfl, h1, h2, h3⟩
set_option maxRecDepth 100000 in
theorem open_three {v : Value} {d : DataW H} {p : List MemPlace} (hv : Value.okWide Tryd.prog w r base 49 v) (h : DataW.Trod enc Tryd.prog w 0 (fun _ => true) true 49 v d p) : ∃ t : Tr, v = t.val ∧ wfT t := by
  obtain ⟨a, b, c, rfl, h1, h2, h3⟩ := open_tri Tryd.underlying49 Tryd.underlying3 (by kernel_rfl) (by kernel_rfl) hv h
  exact ⟨⟨a, b, c⟩, rfl, h1, h2, h3⟩
set_option maxRecDepth 100000 in
theorem open_sealed {v : Value} {d : DataW H} {p : List MemPlace} (hv : Value.okWide Tryd.prog w r base 55 v) (h : DataW.Trod enc Tryd.prog w 0 (fun _ => true) true 55 v d p) : ∃ s : Se, v = s.val ∧ True := by
  obtain ⟨s, hs⟩ := open_six Tryd.underlying55 Tryd.underlying53 (by kernel_rfl) (by kernel_rfl) Tryd.underlying3 (by kernel_rfl) rfl rfl rfl rfl rfl rfl hv h
  exact ⟨s, hs, trivial⟩
end
end Go.Proofs.YtaheibbbdglcmaaDoor

namespace Go.Proofs.YtaheibbbdglcmaaDoor
open Go.RowKit Go.WideShapes Go.ChangeShapes Go.Deep Fk
/-! Proofs, letters and lists of them as arguments. -/
section
variable {H : Type} {enc : TypeId × Value → H} {P : Program} {w : World} {base base' : Nat} {r : Reach} {sp : Nat → Bool} {held : Bool}
theorem two_of {cs : List Value} (h : cs.length = 2) : ∃ a b, cs = [a, b] := by
  match cs, h with
  | [a, b], _ => exact ⟨a, b, rfl⟩
/-- six cells that are read as three structs of two integers -/
theorem six_ints {t e i : TypeId} {fs : Array Field} {cs : List Value} {fuel : Nat} {x : DataW H × List MemPlace} (hs : cs.length = 6) (ht : P.underlying t = some (.array 3 e)) (he : P.underlying e = some (.struct fs)) (hce : P.cellsOf e = 2)
    (hi : P.underlying i = some (.int .i64)) (hci : P.cellsOf i = 1) {f0 f1 : Field} (hf0 : fs[0]? = some f0) (hf1 : fs[1]? = some f1) (h00 : f0.offset = 0) (h01 : f1.offset = 1) (ht0 : f0.type = i) (ht1 : f1.type = i)
    (hf : DataW.trod enc P w base' sp held fuel t cs = some x) :
    ∃ a0 b0 a1 b1 a2 b2 : Int, cs = [.int .i64 a0, .int .i64 b0, .int .i64 a1, .int .i64 b1, .int .i64 a2, .int .i64 b2] := by
  obtain ⟨x0, x1, x2, x3, x4, x5, hx⟩ := six_of (cs := cs.toArray) (by simpa using hs)
  obtain rfl : cs = [x0, x1, x2, x3, x4, x5] := by
    have := congrArg Array.toList hx
    simpa using this
  clear hx
  obtain ⟨xs, m, _, _, _, hl, hel⟩ := DataW.trod_array ht hf
  simp only [hce] at hel
  have key : ∀ k, k < 3 → ∃ a b : Int, (([x0, x1, x2, x3, x4, x5] : List Value).drop (k * 2)).take 2 = [.int .i64 a, .int .i64 b] := by
    intro k hk
    obtain ⟨y, g⟩ := some_at hl hk
    have h1 := (hel k hk).trans g
    obtain ⟨ys, n, _, _, hlen, hyl, hfs⟩ := DataW.trod_struct he h1
    have hfz : 1 < fs.size := (Array.getElem?_eq_some_iff.1 hf1).1
    obtain ⟨z0, g0⟩ := some_at hyl (show 0 < fs.size by omega)
    obtain ⟨z1, g1⟩ := some_at hyl hfz
    have a0 := (hfs 0 f0 hf0).trans g0
    have a1 := (hfs 1 f1 hf1).trans g1
    rw [h00, ht0, hci] at a0
    rw [h01, ht1, hci] at a1
    obtain ⟨a, e0, _, _⟩ := DataW.trod_int hi a0
    obtain ⟨b, e1, _, _⟩ := DataW.trod_int hi a1
    refine ⟨a, b, ?_⟩
    rcases (show k = 0 ∨ k = 1 ∨ k = 2 by omega) with rfl | rfl | rfl <;> (simp at e0 e1 ⊢; exact ⟨e0, e1⟩)
  obtain ⟨a0, b0, k0⟩ := key 0 (by omega)
  obtain ⟨a1, b1, k1⟩ := key 1 (by omega)
  obtain ⟨a2, b2, k2⟩ := key 2 (by omega)
  simp at k0 k1 k2
  obtain ⟨rfl, rfl⟩ := k0
  obtain ⟨rfl, rfl⟩ := k1
  obtain ⟨rfl, rfl⟩ := k2
  exact ⟨a0, b0, a1, b1, a2, b2, rfl⟩
theorem open_slice_six {s t e i : TypeId} {fs : Array Field} {cs : List Value} {fuel : Nat} {x : DataW H × List MemPlace} (hsl : P.underlying s = some (.slice t)) (ht : P.underlying t = some (.array 3 e)) (he : P.underlying e = some (.struct fs)) (hct : P.cellsOf t = 6) (hce : P.cellsOf e = 2)
    (hi : P.underlying i = some (.int .i64)) (hci : P.cellsOf i = 1) {f0 f1 : Field} (hf0 : fs[0]? = some f0) (hf1 : fs[1]? = some f1) (h00 : f0.offset = 0) (h01 : f1.offset = 1) (ht0 : f0.type = i) (ht1 : f1.type = i)
    (h : DataW.trod enc P w base sp true fuel s cs = some x) :
    (cs = [.slice none 0 0]) ∨
    ∃ (a : Addr) (len cap : Nat), cs = [.slice (some a) len cap] ∧ len ≤ cap ∧ cap ≤ maxLen ∧
      ∀ i, i < len → ∃ a0 b0 a1 b1 a2 b2 : Int, ∀ j, j < 6 → w.cell? (a.add (i * 6 + j)) = some (([.int .i64 a0, .int .i64 b0, .int .i64 a1, .int .i64 b1, .int .i64 a2, .int .i64 b2] : List Value).getD j undef) := by
  rcases open_slice hsl h with h0 | ⟨a, len, cap, m, n, D, Pl, hcs, hb, hl, hm, hmm, hx, hi'⟩
  · exact .inl h0.1
  · refine .inr ⟨a, len, cap, hcs, hl, hm, fun k hk => ?_⟩
    obtain ⟨cs', hc, ht'⟩ := hi' k (by rw [hmm]; split <;> omega)
    rw [hct] at hc
    obtain ⟨_, hcl, hat⟩ := World.cells?_some hc
    obtain ⟨a0, b0, a1, b1, a2, b2, rfl⟩ := six_ints hcl ht he hce hi hci hf0 hf1 h00 h01 ht0 ht1 ht'
    refine ⟨a0, b0, a1, b1, a2, b2, fun j hj => ?_⟩
    rw [← Go.Deep.add_add, hat j hj]
    rcases six hj with rfl | rfl | rfl | rfl | rfl | rfl <;> rfl
end
section
variable {H : Type} {enc : TypeId × Value → H} {w : World} {base : Nat} {r : Reach}
set_option maxRecDepth 100000 in
theorem open_eq {v : Value} {d : DataW H} {p : List MemPlace} (hv : Value.okWide Tryd.prog w r base 34 v) (h : DataW.Trod enc Tryd.prog w 0 (fun _ => true) true 34 v d p) : ∃ t : Pf, v = t.val ∧ True := by
  obtain ⟨fuel, hf⟩ := h
  obtain ⟨ys, n, _, _, hlen, hyl, hfs⟩ := DataW.trod_struct Tryd.underlying34 hf
  obtain ⟨z0, g0⟩ := some_at hyl (show 0 < _ by decide)
  obtain ⟨z1, g1⟩ := some_at hyl (show 1 < _ by decide)
  have a0 := (hfs 0 _ rfl).trans g0
  have a1 := (hfs 1 _ rfl).trans g1
  obtain ⟨a, e0, _, _⟩ := DataW.trod_int Tryd.underlying3 a0
  obtain ⟨b, e1, _, _⟩ := DataW.trod_int Tryd.underlying3 a1
  have hag : ∃ cs, v = .agg cs ∧ cs.size = 2 := by
    simp only [Value.okWide, Tryd.underlying34] at hv
    obtain ⟨cs, h1, h2, _⟩ := hv
    exact ⟨cs, h1, h2.trans (by kernel_rfl)⟩
  obtain ⟨⟨cs⟩, rfl, hs⟩ := hag
  obtain ⟨x0, x1, rfl⟩ := two_of (cs := cs) (by simpa using hs)
  have s1 : Tryd.prog.cellsOf 3 = 1 := by kernel_rfl
  simp [Value.cells, s1] at e0 e1
  subst e0 e1
  exact ⟨⟨a, b⟩, rfl, trivial⟩
set_option maxRecDepth 100000 in
theorem open_sl_se {v : Value} {d : DataW H} {p : List MemPlace} (hv : Value.okWide Tryd.prog w r base 46 v) (h : DataW.Trod enc Tryd.prog w 0 (fun _ => true) true 46 v d p) :
    ∃ l : List Se, SlS w w.heap.size v l ∧ ∃ A c, v = .slice A l.length c ∧ l.length ≤ c ∧ c ≤ maxLen := by
  obtain ⟨a, len, cap, rfl⟩ := okWide_slice Tryd.underlying46 hv
  obtain ⟨fuel, hf⟩ := h
  rw [cells_slice] at hf
  rcases open_slice_six Tryd.underlying46 Tryd.underlying55 Tryd.underlying53 (by kernel_rfl) (by kernel_rfl) Tryd.underlying3 (by kernel_rfl) rfl rfl rfl rfl rfl rfl hf with hcs | ⟨a', len', cap', hcs, hl, hm, hi⟩
  · obtain ⟨rfl, rfl, rfl⟩ : a = none ∧ len = 0 ∧ cap = 0 := by simpa using hcs
    exact ⟨[], SlG.nil_ _ _, none, 0, rfl, Nat.le_refl _, by unfold maxLen; omega⟩
  · obtain ⟨rfl, rfl, rfl⟩ : a = some a' ∧ len = len' ∧ cap = cap' := by simpa using hcs
    obtain ⟨l, h1, _⟩ := sl_of_cells (m := 6) (en := encS) (a := a') (len := len) (cap := cap) (w := w) (Q := fun _ => True) (by omega) (by unfold maxLen at hm; omega) (fun i hil => by
      obtain ⟨a0, b0, a1, b1, a2, b2, hc⟩ := hi i hil
      exact ⟨⟨⟨a0, b0⟩, ⟨a1, b1⟩, ⟨a2, b2⟩⟩, trivial, hc⟩)
    obtain rfl : len = l.length := by obtain ⟨_, _, _, hv, _⟩ := h1; injection hv
    exact ⟨l, h1, some a', cap, rfl, hl, hm⟩
set_option maxRecDepth 100000 in
theorem open_sl_pt {v : Value} {d : DataW H} {p : List MemPlace} (hv : Value.okWide Tryd.prog w r base 47 v) (h : DataW.Trod enc Tryd.prog w 0 (fun _ => true) true 47 v d p) :
    ∃ l : List Pt, SlP w w.heap.size v l ∧ ∃ A c, v = .slice A l.length c ∧ l.length ≤ c ∧ c ≤ maxLen := by
  obtain ⟨a, len, cap, rfl⟩ := okWide_slice Tryd.underlying47 hv
  obtain ⟨fuel, hf⟩ := h
  rw [cells_slice] at hf
  rcases open_slice_six Tryd.underlying47 Tryd.underlying81 Tryd.underlying34 (by kernel_rfl) (by kernel_rfl) Tryd.underlying3 (by kernel_rfl) rfl rfl rfl rfl rfl rfl hf with hcs | ⟨a', len', cap', hcs, hl, hm, hi⟩
  · obtain ⟨rfl, rfl, rfl⟩ : a = none ∧ len = 0 ∧ cap = 0 := by simpa using hcs
    exact ⟨[], SlG.nil_ _ _, none, 0, rfl, Nat.le_refl _, by unfold maxLen; omega⟩
  · obtain ⟨rfl, rfl, rfl⟩ : a = some a' ∧ len = len' ∧ cap = cap' := by simpa using hcs
    obtain ⟨l, h1, _⟩ := sl_of_cells (m := 6) (en := encP) (a := a') (len := len) (cap := cap) (w := w) (Q := fun _ => True) (by omega) (by unfold maxLen at hm; omega) (fun i hil => by
      obtain ⟨a0, b0, a1, b1, a2, b2, hc⟩ := hi i hil
      exact ⟨⟨⟨a0, b0⟩, ⟨a1, b1⟩, ⟨a2, b2⟩⟩, trivial, hc⟩)
    obtain rfl : len = l.length := by obtain ⟨_, _, _, hv, _⟩ := h1; injection hv
    exact ⟨l, h1, some a', cap, rfl, hl, hm⟩
end
end Go.Proofs.YtaheibbbdglcmaaDoor

namespace Go.Proofs.YtaheibbbdglcmaaDoor
open Go.RowKit Go.WideShapes Go.ChangeShapes
/-! The row's last step where the call left a world of which 'Below' is known. -/
section
variable {H : Type} {enc : TypeId × Value → H} {P : Program}
theorem post_of_below {f : Func} {s : ChangeSpec} {apart fresh handsOn again : Bool} {W W' : World} {args : Array Value} {v : Value} {ds gs : List (DataW H)} {before pa pv : List MemPlace}
    (hW : DataW.Whole enc P f.params.toList s.vars apart W args.toList ds gs before)
    (hres : ∀ (b : Nat) (sp : Nat → Bool) (hd : Bool), DataW.TrodAll enc P W' b sp hd f.resultTypes.toList (v.resultList f.resultTypes.size) (s.fn H (ds ++ gs)).results [])
    (hargs : ∀ sp : Nat → Bool, (∀ p ∈ before, sp p.block = true) → DataW.TrodAll enc P W' 0 sp true f.params.toList args.toList (s.fn H (ds ++ gs)).args pa)
    (hvars : ∀ sp : Nat → Bool, (∀ p ∈ before, sp p.block = true) → DataW.TrodVars enc P W' sp s.vars (s.fn H (ds ++ gs)).vars pv)
    (hps : before = pa ++ pv) (hb : Below W.heap.size W W')
    (hok : ∀ (j : Nat) (t : TypeId) (r : Value), f.resultTypes[j]? = some t → (v.resultList f.resultTypes.size)[j]? = some r → Value.okWide P W' .any 0 t r) :
    s.post enc P f apart fresh handsOn again W args v W' := by
  have hlt : ∀ p ∈ before, p.block < W.heap.size := fun p hp => hW.lt p hp
  have hold : ∀ p ∈ before, (fun b => decide (b < W.heap.size)) p.block = true := fun p hp => by simpa using hlt p hp
  refine ⟨ds, gs, before, [], pa, pv, hW, hres _ _ _, hargs _ hold, hvars _ hold, World.keptBut_mono (fun p hp => ⟨hp, ?_⟩) (hb.frame (· ∈ before)), fun _ => ?_⟩
  · rw [hps, List.mem_append] at hp
    exact Or.inr hp
  · obtain ⟨_, _, _, _, _, hz, hn⟩ := hW
    refine ⟨hok, _, _, ([] ++ pa) ++ pv, ⟨[] ++ pa, pv, trodAll_append (hargs _ (fun _ _ => rfl)) (hres _ _ _), hvars _ (fun _ _ => rfl), rfl, ?_, ?_⟩, ?_⟩
    · intro b off hp
      have hin : MemPlace.cell b off ∈ before := by rw [hps]; simpa using hp
      rw [hb.frozen (hlt _ hin)]
      exact hz b off hin
    · intro ha
      have := hn ha
      rw [hps] at this
      simpa using this
    · intro p hp _
      rw [hps]
      simpa using hp
end
end Go.Proofs.YtaheibbbdglcmaaDoor

namespace Go.Proofs.YtaheibbbdglcmaaDoor
open Go.ChangeShapes Go.WideShapes Go.RowKit Go.WideElems Fk Sha
/-! What the listed tables give. -/
theorem ints_of {enc : TypeId × Value → Unit} {P : Program} {W : World} {base : Nat} {spare : Nat → Bool} {held : Bool} {fuel n : Nat} {t e : TypeId} {k : IntKind} {cs : List Value} {D : List (DataW Unit)} {p : List MemPlace} (ht : P.underlying t = some (.array n e)) (he : P.underlying e = some (.int k)) (hc : P.cellsOf e = 1)
    (h : DataW.trod enc P W base spare held fuel t cs = some (.agg D, p)) {i : Nat} (hi : i < n) : ∃ x : Int, cs[i]? = some (.int k x) ∧ D[i]? = some (.lit (.int k x)) := by
  obtain ⟨xs, m, _, hx, _, hl, hel⟩ := DataW.trod_array ht h
  have h1 := hel i hi
  rw [hc, Nat.mul_one] at h1
  obtain ⟨y, hy⟩ : ∃ y, xs[i]? = some y := ⟨_, List.getElem?_eq_getElem (by omega)⟩
  obtain ⟨x, e1, e2, _⟩ := DataW.trod_int he (h1.trans hy)
  refine ⟨x, ?_, ?_⟩
  · have := congrArg (fun l : List Value => l[0]?) e1
    simp only [List.getElem?_take, List.getElem?_drop] at this
    simpa using this
  · simp only [Prod.mk.injEq, DataW.agg.injEq] at hx
    rw [hx.1, List.getElem?_map, hy, Option.map_some, e2]
theorem gStart : Tryd.prog.globalNamed "franking/digest.start" = some 0 := by kernel_rfl
theorem gNumbers : Tryd.prog.globalNamed "franking/digest.numbers" = some 1 := by kernel_rfl
theorem tStart : (Tryd.prog.globals[0]?).map (·.type) = some 94 := by kernel_rfl
theorem tNumbers : (Tryd.prog.globals[1]?).map (·.type) = some 117 := by kernel_rfl
theorem dStart : (Rows.laid_franking_digest_start : DataW Unit) = .agg (startS.list.map fun x => .lit (.int .u32 (x.toNat : Int))) := by kernel_rfl
theorem dNumbers : (Rows.laid_franking_digest_numbers : DataW Unit) = .agg (numbersL.map fun x => .lit (.int .u32 (x.toNat : Int))) := by kernel_rfl
theorem tab_laid {W : World} (h : laidMetH Tryd.prog [("franking/digest.start", Rows.laid_franking_digest_start), ("franking/digest.numbers", Rows.laid_franking_digest_numbers)] W) : Tab W ∧ (1 < W.heap.size ∧ 0 < W.heap.size) := by
  rw [MakeChecks.laidMetH_plain _ _ _ (by kernel_rfl)] at h
  obtain ⟨ps, ⟨g0, t0, cs0, f0, p0, q0, hg0, ht0, hv0, hd0, ⟨g1, t1, cs1, f1, p1, q1, hg1, ht1, hv1, hd1, _, _⟩, _⟩, _, _⟩ := h
  obtain rfl := Option.some.inj (gStart.symm.trans hg0)
  obtain rfl := Option.some.inj (gNumbers.symm.trans hg1)
  obtain rfl := Option.some.inj (tStart.symm.trans ht0)
  obtain rfl := Option.some.inj (tNumbers.symm.trans ht1)
  rw [dStart] at hd0
  rw [dNumbers] at hd1
  have k1 : ∀ i, i < 64 → W.cell? ⟨1, i, none⟩ = some (u (numbersL.getD i 0)) := by
    intro i hi
    obtain ⟨x, e1, e2⟩ := ints_of Tryd.underlying117 Tryd.underlying93 (by kernel_rfl) hd1 hi
    have hl : i < numbersL.length := hi
    rw [List.getElem?_map, List.getElem?_eq_getElem hl] at e2
    have e3 : un (numbersL.getD i 0) = x := by
      rw [List.getD_eq_getElem?_getD, List.getElem?_eq_getElem hl]
      simp only [Option.map_some, Option.some.injEq, DataW.lit.injEq, Lit.int.injEq, true_and] at e2
      exact e2
    have := World.var?_cell hg1 hv1 i
    rw [this]
    unfold u
    rw [e3]
    simpa using e1
  have k2 : ∀ i, i < 8 → W.cell? ⟨0, i, none⟩ = some (u (startS.list.getD i 0)) := by
    intro i hi
    obtain ⟨x, e1, e2⟩ := ints_of Tryd.underlying94 Tryd.underlying93 (by kernel_rfl) hd0 hi
    have hl : i < startS.list.length := hi
    rw [List.getElem?_map, List.getElem?_eq_getElem hl] at e2
    have e3 : un (startS.list.getD i 0) = x := by
      rw [List.getD_eq_getElem?_getD, List.getElem?_eq_getElem hl]
      simp only [Option.map_some, Option.some.injEq, DataW.lit.injEq, Lit.int.injEq, true_and] at e2
      exact e2
    have := World.var?_cell hg0 hv0 i
    rw [this]
    unfold u
    rw [e3]
    simpa using e1
  exact ⟨⟨k1, k2⟩, World.block_lt_of_cell? W _ (k1 0 (by omega)), World.block_lt_of_cell? W _ (k2 0 (by omega))⟩
end Go.Proofs.YtaheibbbdglcmaaDoor
