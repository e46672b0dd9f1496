import Derived.Test.YthckledagggoiaaGreatDoorZPj
import Derived.Test.YthckledagggoiaaGreatDoorZAs2
import Derived.Deep.LoopGhost
set_option linter.unusedSimpArgs false
set_option linter.unusedVariables false
namespace Go.Proofs.YthckledagggoiaaGreatDoor
open Go.RowKit Fk Sha
/-! The reference's key, office, alias, Alias, Find. -/
theorem rmax (E : Int) (h : 0 ≤ E) : (if 1 < E then E else 1) = if E = 0 then 1 else E := by
  by_cases h1 : 1 < E
  · rw [if_pos h1, if_neg (by omega)]
  · by_cases h2 : E = 0
    · rw [if_neg h1, if_pos h2]
    · rw [if_neg h1, if_neg h2]; omega
theorem hashN_0 (d : List B) : 0 ≤ hashN d := by unfold hashN; omega
set_option maxHeartbeats 1000000 in
theorem rkey_any (n : Int) (w : World) : Calls Tryz.prog 73 #[.int .i64 n] w fun e w' => e = .returned (.bool (secK n)) ∧ w = w' := by
  unfold secK
  obtain ⟨b1, h1⟩ : ∃ b, decide (1 ≤ n) = b := ⟨_, rfl⟩
  obtain ⟨b2, h2⟩ : ∃ b, decide (n < 1073741789) = b := ⟨_, rfl⟩
  rw [h1, h2]
  cases b1 <;> cases b2
  all_goals
    go_enter Tryz.func73, Tryz.ntmps73
    go_wp2
    go_ret
    exact ⟨rfl, rfl⟩
set_option maxHeartbeats 1000000 in
theorem roffice_any (n : Int) (w : World) : Calls Tryz.prog 74 #[.int .i64 n] w fun e w' => e = .returned (.bool (offB n)) ∧ w = w' := by
  unfold offB
  obtain ⟨b1, h1⟩ : ∃ b, decide (0 ≤ n) = b := ⟨_, rfl⟩
  obtain ⟨b2, h2⟩ : ∃ b, decide (n < 24) = b := ⟨_, rfl⟩
  rw [h1, h2]
  cases b1 <;> cases b2
  all_goals
    go_enter Tryz.func74, Tryz.ntmps74
    go_wp2
    go_ret
    exact ⟨rfl, rfl⟩
set_option maxRecDepth 100000 in
set_option maxHeartbeats 4000000 in
theorem ralias_any (s p o : Int) (hs : smallI [s, p, o]) (w : World) :
    Calls Tryz.prog 75 #[.int .i64 s, .int .i64 p, .int .i64 o] w fun e w' => e = .returned (.int .i64 (aliasN s p o)) ∧ Below w.heap.size w w' := by
  have hB0 := below_alloc' w (.cells #[.int .i64 s, .int .i64 p, .int .i64 o] 3)
  have hi : Calls Tryz.prog 121 #[.slice (some ⟨w.heap.size, 0, none⟩) 3 3] (w.alloc (.cells #[.int .i64 s, .int .i64 p, .int .i64 o] 3)) fun e w' => ∃ A c, e = .returned (.agg #[.int .i64 3, .int .i64 0, .string ⟨#[]⟩, .slice A 3 c]) ∧ SlV w' w'.heap.size (.slice A 3 c) [s, p, o] ∧ Below (w.alloc (.cells #[.int .i64 s, .int .i64 p, .int .i64 o] 3)).heap.size (w.alloc (.cells #[.int .i64 s, .int .i64 p, .int .i64 o] 3)) w' :=
    refints_any [s, p, o] _ _ (sl_newI w [s, p, o] #[.int .i64 s, .int .i64 p, .int .i64 o] rfl (by simp) 3 rfl) (by simp)
  have hen : ∀ (A : Option Addr) (c : Nat) (W : World), SlV W W.heap.size (.slice A 3 c) [s, p, o] → Calls Tryz.prog 120 #[.agg #[.int .i64 3, .int .i64 0, .string ⟨#[]⟩, .slice A 3 c]] W fun e w' => ∃ v, e = .returned (.tuple #[v, .int .i64 0]) ∧ ownR W.heap.size w' v (encL [s, p, o]) ∧ Below W.heap.size W w' := fun A c W h => refEncode_list [s, p, o] A c W h hs (by simp)
  have hlen := encL_len hs (by simp)
  have hc : aliasH s p o = hashN (tagged (sb aliasB) (encL [s, p, o])) := rfl
  obtain ⟨L, hL⟩ : ∃ L, encL [s, p, o] = L := ⟨_, rfl⟩
  rw [hL] at hen hlen hc
  have hh := fun v W h1 h2 => refhash_any ⟨#[97, 108, 105, 97, 115]⟩ L v W h1 h2 (by omega) (by decide)
  rw [← hc] at hh
  have ha : aliasN s p o = numC (powC 4 (if aliasH s p o = 0 then 1 else aliasH s p o)) := by
    rw [← rmax _ (by rw [hc]; exact hashN_0 _)]; rfl
  rw [ha]
  obtain ⟨E, hE⟩ : ∃ E, aliasH s p o = E := ⟨_, rfl⟩
  rw [hE] at hh ⊢
  have hpw := fun (n : Int) (W : World) => refpow_any 4 n W
  have hnm := fun (n : Int) (W : World) => refnumber_any n W
  obtain ⟨PW, hPW⟩ : ∃ PW, powC 4 = PW := ⟨_, rfl⟩
  obtain ⟨PE, hPE⟩ : ∃ PE, powE 4 = PE := ⟨_, rfl⟩
  obtain ⟨NM, hNM⟩ : ∃ NM, numC = NM := ⟨_, rfl⟩
  obtain ⟨NE, hNE⟩ : ∃ NE, numE = NE := ⟨_, rfl⟩
  rw [hPW, hPE] at hpw
  rw [hNM, hNE] at hnm
  rw [hPW, hNM]
  have HI := Lib.hid hi
  have HE := Lib.hid hen
  have HH := Lib.hid hh
  have HP := Lib.hid hpw
  have HN := Lib.hid hnm
  have HL := Lib.hid hlen
  clear hc hL hE ha hs hi hen hh hpw hnm hPW hPE hNM hNE hlen
  by_cases h0 : E = 0
  · subst h0
    rw [if_pos rfl]
    go_enter Tryz.func75, Tryz.ntmps75
    go_wp2_with (first
      | (go_at_call 121; (with_reducible refine HI.out.mono ?_); rintro e w1 ⟨A1, k1, rfl, hv1, hb⟩; replace hB0 := hB0.trans (hb.mono hB0.size))
      | (go_at_call 120; (with_reducible refine (HE.out _ _ _ hv1).mono ?_); rintro e w2 ⟨v2, rfl, ho, hb⟩; replace hB0 := hB0.trans (hb.mono hB0.size); obtain ⟨q1, q2⟩ := own_slB ho rfl (by have := HL.out; omega))
      | (go_at_call 122; (with_reducible refine (HH.out _ _ q1 q2).mono ?_); rintro e w3 ⟨rfl, hb⟩; replace hB0 := hB0.trans (hb.mono hB0.size))
      | (go_at_call 123; (with_reducible refine (HP.out _ _).mono ?_); rintro e w4 ⟨rfl, rfl⟩)
      | (go_at_call 124; (with_reducible refine (HN.out _ _).mono ?_); rintro e w5 ⟨rfl, rfl⟩))
    go_ret
    exact ⟨rfl, hB0⟩
  · rw [if_neg h0]
    have z : (E == 0) = false := beq_eq_false_iff_ne.2 h0
    clear h0
    go_enter Tryz.func75, Tryz.ntmps75
    go_wp2_with (first
      | (go_at_call 121; (with_reducible refine HI.out.mono ?_); rintro e w1 ⟨A1, k1, rfl, hv1, hb⟩; replace hB0 := hB0.trans (hb.mono hB0.size))
      | (go_at_call 120; (with_reducible refine (HE.out _ _ _ hv1).mono ?_); rintro e w2 ⟨v2, rfl, ho, hb⟩; replace hB0 := hB0.trans (hb.mono hB0.size); obtain ⟨q1, q2⟩ := own_slB ho rfl (by have := HL.out; omega))
      | (go_at_call 122; (with_reducible refine (HH.out _ _ q1 q2).mono ?_); rintro e w3 ⟨rfl, hb⟩; replace hB0 := hB0.trans (hb.mono hB0.size))
      | (go_at_call 123; (with_reducible refine (HP.out _ _).mono ?_); rintro e w4 ⟨rfl, rfl⟩)
      | (go_at_call 124; (with_reducible refine (HN.out _ _).mono ?_); rintro e w5 ⟨rfl, rfl⟩))
    go_ret
    exact ⟨rfl, hB0⟩
end Go.Proofs.YthckledagggoiaaGreatDoor

set_option linter.unusedSimpArgs false
set_option linter.unusedVariables false
namespace Go.Proofs.YthckledagggoiaaGreatDoor
open Go.RowKit Fk Sha
/-! The reference's Alias, Find. -/
set_option maxRecDepth 100000 in
set_option maxHeartbeats 4000000 in
theorem rAlias_any (s p o : Int) (w : World) :
    Calls Tryz.prog 28 #[.int .i64 s, .int .i64 p, .int .i64 o] w fun e w' => e = .returned (.tuple #[.int .i64 (aliasA s p o), .int .i64 (ckE s o (idP p))]) ∧ Below w.heap.size w w' := by
  have k := fun W => rkey_any s W
  have oo := fun W => roffice_any o W
  have O := Lib.hid oo
  cases hk : secK s with
  | false =>
    have e1 : ckE s o (idP p) = 110 := by unfold ckE; rw [hk]; rfl
    have e2 : aliasA s p o = 0 := by unfold aliasA; rw [e1]; rfl
    rw [e1, e2]
    rw [hk] at k
    have K := Lib.hid k
    clear k oo hk e1 e2
    go_enter Tryz.func28, Tryz.ntmps28
    go_wp2_with (first
      | (go_at_call 73; (with_reducible refine (K.out _).mono ?_); rintro e X ⟨rfl, rfl⟩))
    go_ret2
    exact ⟨rfl, Below.refl _ _⟩
  | true =>
    rw [hk] at k
    have K := Lib.hid k
    have e0 : ckE s o (idP p) = if idP p && offB o then 0 else 1 := by unfold ckE; rw [hk]; rfl
    by_cases h1 : p < 0
    · have e1 : ckE s o (idP p) = 1 := by rw [e0]; unfold idP; rw [decide_eq_false (show ¬ 0 ≤ p by omega)]; rfl
      have e2 : aliasA s p o = 0 := by unfold aliasA; rw [e1]; rfl
      rw [e1, e2]
      have f1 : decide (p < 0) = true := decide_eq_true h1
      clear k oo hk e0 e1 e2 h1
      go_enter Tryz.func28, Tryz.ntmps28
      go_wp2_with (first
        | (go_at_call 73; (with_reducible refine (K.out _).mono ?_); rintro e X ⟨rfl, rfl⟩)
        | (go_at_call 74; (with_reducible refine (O.out _).mono ?_); rintro e Y ⟨rfl, rfl⟩)
        | (go_at_call 75; (with_reducible refine HA.out.mono ?_); rintro e Z ⟨rfl, hb⟩))
      go_ret2
      exact ⟨rfl, Below.refl _ _⟩
    have f1 : decide (p < 0) = false := decide_eq_false h1
    by_cases h2 : 1048576 < p
    · have e1 : ckE s o (idP p) = 1 := by rw [e0]; unfold idP; rw [decide_eq_false (show ¬ p ≤ 1048576 by omega), Bool.and_false]; rfl
      have e2 : aliasA s p o = 0 := by unfold aliasA; rw [e1]; rfl
      rw [e1, e2]
      have f2 : decide (1048576 < p) = true := decide_eq_true h2
      clear k oo hk e0 e1 e2 h1 h2
      go_enter Tryz.func28, Tryz.ntmps28
      go_wp2_with (first
        | (go_at_call 73; (with_reducible refine (K.out _).mono ?_); rintro e X ⟨rfl, rfl⟩)
        | (go_at_call 74; (with_reducible refine (O.out _).mono ?_); rintro e Y ⟨rfl, rfl⟩)
        | (go_at_call 75; (with_reducible refine HA.out.mono ?_); rintro e Z ⟨rfl, hb⟩))
      go_ret2
      exact ⟨rfl, Below.refl _ _⟩
    have f2 : decide (1048576 < p) = false := decide_eq_false h2
    have hi : idP p = true := by unfold idP; simp only [Bool.and_eq_true, decide_eq_true_eq]; omega
    rw [hi, Bool.true_and] at e0
    cases ho : offB o with
    | false =>
      rw [ho] at e0 oo
      have e1 : ckE s o (idP p) = 1 := by rw [hi]; exact e0
      have e2 : aliasA s p o = 0 := by unfold aliasA; rw [e1]; rfl
      rw [e1, e2]
      have O := Lib.hid oo
      clear k oo hk e0 e1 e2 h1 h2 hi ho
      go_enter Tryz.func28, Tryz.ntmps28
      go_wp2_with (first
        | (go_at_call 73; (with_reducible refine (K.out _).mono ?_); rintro e X ⟨rfl, rfl⟩)
        | (go_at_call 74; (with_reducible refine (O.out _).mono ?_); rintro e Y ⟨rfl, rfl⟩)
        | (go_at_call 75; (with_reducible refine HA.out.mono ?_); rintro e Z ⟨rfl, hb⟩))
      go_ret2
      exact ⟨rfl, Below.refl _ _⟩
    | true =>
      rw [ho] at e0 oo
      have e1 : ckE s o (idP p) = 0 := by rw [hi]; exact e0
      have e2 : aliasA s p o = aliasN s p o := by unfold aliasA; rw [if_pos e1]
      obtain ⟨r1, _, r3⟩ := ckE_0 e1
      have ha := ralias_any s p o (small3 ⟨by omega, by omega⟩ ⟨by omega, by omega⟩ ⟨by omega, by omega⟩) w
      rw [e1, e2]
      obtain ⟨a, haa⟩ : ∃ a, aliasN s p o = a := ⟨_, rfl⟩
      rw [haa] at ha ⊢
      have HA := Lib.hid ha
      have O := Lib.hid oo
      clear k oo hk e0 e1 e2 h1 h2 hi ho ha haa r1 r3
      go_enter Tryz.func28, Tryz.ntmps28
      go_wp2_with (first
        | (go_at_call 73; (with_reducible refine (K.out _).mono ?_); rintro e X ⟨rfl, rfl⟩)
        | (go_at_call 74; (with_reducible refine (O.out _).mono ?_); rintro e Y ⟨rfl, rfl⟩)
        | (go_at_call 75; (with_reducible refine HA.out.mono ?_); rintro e Z ⟨rfl, hb⟩))
      go_ret2
      exact ⟨rfl, hb⟩
theorem ret_rfind (tmps : Array Value) (W : World) (x y z : Value) (h8 : tmps[8]?.getD undef = x) (h9 : tmps[9]?.getD undef = y) (h10 : tmps[10]?.getD undef = z) :
    (results Tryz.f29 tmps).run Tryz.prog W = .ok (.tuple #[x, y, z]) W := by
  simp [results, Tryz.f29, go_sem, h8, h9, h10]
set_option maxRecDepth 100000 in
set_option maxHeartbeats 4000000 in
theorem rFind_any (s n o a : Int) (w : World) :
    Calls Tryz.prog 29 #[.int .i64 s, .int .i64 n, .int .i64 o, .int .i64 a] w fun e w' => e = .returned (fv (findV s n o a) (ckE s o (manyP n))) ∧ Below w.heap.size w w' := by
  have k := fun W => rkey_any s W
  have oo := fun W => roffice_any o W
  have O := Lib.hid oo
  cases hk : secK s with
  | false =>
    have e1 : ckE s o (manyP n) = 110 := by unfold ckE; rw [hk]; rfl
    have e2 : findV s n o a = (0, false) := by unfold findV; rw [e1]; rfl
    rw [e1, e2]
    rw [hk] at k
    have K := Lib.hid k
    clear k oo hk e1 e2
    go_enter Tryz.func29, Tryz.ntmps29
    go_wp2_with (first
      | (go_at_call 73; (with_reducible refine (K.out _).mono ?_); rintro e X ⟨rfl, rfl⟩))
    exact bodyPost_ret (ret_rfind _ _ _ _ _ rfl rfl rfl) rfl ⟨rfl, Below.refl _ _⟩
  | true =>
    rw [hk] at k
    have K := Lib.hid k
    have e0 : ckE s o (manyP n) = if manyP n && offB o then 0 else 1 := by unfold ckE; rw [hk]; rfl
    by_cases h1 : n < 0
    · have e1 : ckE s o (manyP n) = 1 := by rw [e0]; unfold manyP; rw [decide_eq_false (show ¬ 0 ≤ n by omega)]; rfl
      have e2 : findV s n o a = (0, false) := by unfold findV; rw [e1]; rfl
      rw [e1, e2]
      have f1 : decide (n < 0) = true := decide_eq_true h1
      clear k oo hk e0 e1 e2 h1
      go_enter Tryz.func29, Tryz.ntmps29
      go_wp2_with (first
        | (go_at_call 73; (with_reducible refine (K.out _).mono ?_); rintro e X ⟨rfl, rfl⟩)
        | (go_at_call 74; (with_reducible refine (O.out _).mono ?_); rintro e Y ⟨rfl, rfl⟩))
      exact bodyPost_ret (ret_rfind _ _ _ _ _ rfl rfl rfl) rfl ⟨rfl, Below.refl _ _⟩
    have f1 : decide (n < 0) = false := decide_eq_false h1
    by_cases h2 : 1024 < n
    · have e1 : ckE s o (manyP n) = 1 := by rw [e0]; unfold manyP; rw [decide_eq_false (show ¬ n ≤ 1024 by omega), Bool.and_false]; rfl
      have e2 : findV s n o a = (0, false) := by unfold findV; rw [e1]; rfl
      rw [e1, e2]
      have f2 : decide (1024 < n) = true := decide_eq_true h2
      clear k oo hk e0 e1 e2 h1 h2
      go_enter Tryz.func29, Tryz.ntmps29
      go_wp2_with (first
        | (go_at_call 73; (with_reducible refine (K.out _).mono ?_); rintro e X ⟨rfl, rfl⟩)
        | (go_at_call 74; (with_reducible refine (O.out _).mono ?_); rintro e Y ⟨rfl, rfl⟩))
      exact bodyPost_ret (ret_rfind _ _ _ _ _ rfl rfl rfl) rfl ⟨rfl, Below.refl _ _⟩
    have f2 : decide (1024 < n) = false := decide_eq_false h2
    have hi : manyP n = true := by unfold manyP; simp only [Bool.and_eq_true, decide_eq_true_eq]; omega
    rw [hi, Bool.true_and] at e0
    cases ho : offB o with
    | false =>
      rw [ho] at e0 oo
      have e1 : ckE s o (manyP n) = 1 := by rw [hi]; exact e0
      have e2 : findV s n o a = (0, false) := by unfold findV; rw [e1]; rfl
      rw [e1, e2]
      have O := Lib.hid oo
      clear k oo hk e0 e1 e2 h1 h2 hi ho
      go_enter Tryz.func29, Tryz.ntmps29
      go_wp2_with (first
        | (go_at_call 73; (with_reducible refine (K.out _).mono ?_); rintro e X ⟨rfl, rfl⟩)
        | (go_at_call 74; (with_reducible refine (O.out _).mono ?_); rintro e Y ⟨rfl, rfl⟩))
      exact bodyPost_ret (ret_rfind _ _ _ _ _ rfl rfl rfl) rfl ⟨rfl, Below.refl _ _⟩
    | true =>
      rw [ho] at e0 oo
      have e1 : ckE s o (manyP n) = 0 := by rw [hi]; exact e0
      have e2 : findV s n o a = optV (firstA (fun p => aliasN s p o) a n.toNat) := by unfold findV; rw [if_pos e1]
      obtain ⟨r1, _, r3⟩ := ckE_0 e1
      obtain ⟨N, rfl⟩ : ∃ N : Nat, n = (N : Int) := ⟨n.toNat, by omega⟩
      rw [e1, e2, Int.toNat_natCast]
      have hN : N ≤ 1024 := by omega
      have hof := fun (k : Nat) (hk : k < N) (W : World) => ralias_any s k o (small3 ⟨by omega, by omega⟩ ⟨by omega, by omega⟩ ⟨by omega, by omega⟩) W
      obtain ⟨F, hF⟩ : ∃ F : Nat → Int, (fun p : Nat => aliasN s p o) = F := ⟨_, rfl⟩
      have hFk : ∀ k : Nat, aliasN s k o = F k := fun k => congrFun hF k
      rw [hF]
      have hof2 := fun (k : Nat) (hk : k < N) (W : World) => by have := hof k hk W; rw [hFk k] at this; exact this
      have HO := Lib.hid hof2
      have O := Lib.hid oo
      have t1 : ¬ 1024 < N := by omega
      clear k oo hk e0 e1 e2 h1 h2 hi ho hof hof2 hF hFk r1 r3
      go_enter Tryz.func29, Tryz.ntmps29
      go_wp2_with (first
        | (go_at_call 73; (with_reducible refine (K.out _).mono ?_); rintro e X ⟨rfl, rfl⟩)
        | (go_at_call 74; (with_reducible refine (O.out _).mono ?_); rintro e Y ⟨rfl, rfl⟩))
      go_loopg [11] N (fun g iv wr => ∃ k : Nat, iv = .int .i64 k ∧ k + g = N ∧ Below w.heap.size w wr ∧ ∀ q, q < k → F q ≠ a)
      case atStart => exact ⟨0, rfl, by omega, Below.refl _ _, fun q hq => by omega⟩
      case round =>
        obtain ⟨k, rfl, hkg, hBr, hall⟩ := hrel
        have HA := Lib.hid hall
        clear hall
        by_cases hlt : k < N
        · have hofk := HO.out k hlt wr
          have HOK := Lib.hid hofk
          clear hofk f1 f2 t1
          obtain ⟨x, hx⟩ : ∃ x, F k = x := ⟨_, rfl⟩
          rw [hx] at HOK
          by_cases hxa : x = a
          · have hfirst := firstA_some hlt (hx.trans hxa) HA.out
            have HF := Lib.hid hfirst
            have t2 : (x == a) = true := by rw [hxa]; exact beq_self_eq_true a
            clear hxa hx hfirst
            go_wp2_with (go_at_call 75; (with_reducible refine HOK.out.mono ?_); rintro e X ⟨rfl, hb2⟩)
            rw [HF.out]
            exact bodyPost_ret (ret_rfind _ _ _ _ _ rfl rfl rfl) rfl ⟨rfl, hBr.trans (hb2.mono hBr.size)⟩
          · have t2 : (x == a) = false := beq_eq_false_iff_ne.2 hxa
            have HX := Lib.hid hx
            have HXA := Lib.hid hxa
            clear hxa hx
            go_wp2_with (go_at_call 75; (with_reducible refine HOK.out.mono ?_); rintro e X ⟨rfl, hb2⟩)
            go_roundg (gk - 1)
            case measure => omega
            case rel => exact ⟨k + 1, by first | rfl | go_num, by omega, hBr.trans (hb2.mono hBr.size), fun q hq => by
              by_cases hqk : q = k
              · subst hqk; rw [HX.out]; exact HXA.out
              · exact HA.out q (by omega)⟩
        · obtain rfl : k = N := by omega
          have hfirst := firstA_none HA.out
          have HF := Lib.hid hfirst
          clear hfirst f1 f2 t1
          go_wp2
          rw [HF.out]
          exact bodyPost_ret (ret_rfind _ _ _ _ _ rfl rfl rfl) rfl ⟨rfl, hBr⟩
end Go.Proofs.YthckledagggoiaaGreatDoor
