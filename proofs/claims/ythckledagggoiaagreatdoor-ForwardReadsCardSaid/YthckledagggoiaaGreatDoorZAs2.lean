import Derived.Test.YthckledagggoiaaGreatDoorZAs1
import Derived.Deep.LoopGhost
set_option linter.unusedSimpArgs false
set_option linter.unusedVariables false
namespace Go.Proofs.YthckledagggoiaaGreatDoor
open Go.RowKit Fk Sha
/-! aliases.Alias, aliases.Find. -/
def idP (p : Int) : Bool := decide (0 ≤ p) && decide (p ≤ 1048576)
def manyP (p : Int) : Bool := decide (0 ≤ p) && decide (p ≤ 1024)
theorem ckE_0 {s o : Int} {ok : Bool} (h : ckE s o ok = 0) : (1 ≤ s ∧ s < 1073741789) ∧ ok = true ∧ (0 ≤ o ∧ o < 24) := by
  unfold ckE at h
  cases hs : secK s with
  | false => rw [hs] at h; simp at h
  | true =>
    rw [hs] at h
    simp only [if_true] at h
    cases hk : (ok && offB o) with
    | false => rw [hk] at h; simp at h
    | true =>
      rw [Bool.and_eq_true] at hk
      unfold secK at hs
      unfold offB at hk
      simp only [Bool.and_eq_true, decide_eq_true_eq] at hs hk
      exact ⟨hs, hk.1, hk.2⟩
def aliasA (s p o : Int) : Int := if ckE s o (idP p) = 0 then aliasN s p o else 0
theorem idP_cases (p m : Int) : (p < 0 ∧ (decide (0 ≤ p) && decide (p ≤ m)) = false) ∨ (0 ≤ p ∧ (decide (0 ≤ p) && decide (p ≤ m)) = decide (p ≤ m)) := by
  by_cases h : p < 0
  · exact .inl ⟨h, by rw [decide_eq_false (show ¬ 0 ≤ p by omega)]; rfl⟩
  · exact .inr ⟨by omega, by rw [decide_eq_true (show 0 ≤ p by omega)]; rfl⟩
set_option maxRecDepth 100000 in
set_option maxHeartbeats 2000000 in
theorem alias_any (s p o : Int) (w : World) (hT : TabOK w) :
    Calls Tryz.prog 13 #[.int .i64 s, .int .i64 p, .int .i64 o] w fun e w' => e = .returned (.tuple #[.int .i64 (aliasA s p o), .int .i64 (ckE s o (idP p))]) ∧ Below w.heap.size w w' := by
  have hck := fun (ok : Bool) (W : World) => acheck_any s o ok W
  have hof : ckE s o (idP p) = 0 → Calls Tryz.prog 49 #[.int .i64 s, .int .i64 p, .int .i64 o] w fun e w' => e = .returned (.int .i64 (aliasA s p o)) ∧ Below w.heap.size w w' := fun h => by
    obtain ⟨h1, h2, h3⟩ := ckE_0 h
    unfold idP at h2
    simp only [Bool.and_eq_true, decide_eq_true_eq] at h2
    have e : aliasA s p o = aliasN s p o := by unfold aliasA; rw [if_pos h]
    rw [e]
    exact of_any s p o (small3 ⟨by omega, by omega⟩ ⟨by omega, by omega⟩ ⟨by omega, by omega⟩) w hT
  have hno : ckE s o (idP p) ≠ 0 → aliasA s p o = 0 := fun h => by unfold aliasA; rw [if_neg h]
  obtain ⟨A, hA⟩ : ∃ A, aliasA s p o = A := ⟨_, rfl⟩
  rw [hA] at hof hno
  rw [hA]
  have HO := Lib.hid hof
  have HN := Lib.hid hno
  have HC := Lib.hid hck
  clear hof hno hck hA
  unfold idP at HO HN ⊢
  rcases idP_cases p 1048576 with ⟨h0, hi⟩ | ⟨h0, hi⟩
  · rw [hi] at HO HN ⊢
    clear hi
    have f0 : decide (0 ≤ p) = false := decide_eq_false (by omega)
    clear h0
    obtain ⟨C, hC⟩ : ∃ C, ckE s o false = C := ⟨_, rfl⟩
    have HC2 := fun W => by have := HC.out false W; rw [hC] at this; exact this
    rw [hC] at HO HN ⊢
    have HCC := Lib.hid HC2
    clear HC HC2 hC
    by_cases hc : C = 0
    · have HOO := Lib.hid (HO.out hc)
      subst hc
      go_enter Tryz.func13, Tryz.ntmps13
      go_wp2_with (first | (go_at_call 48; (with_reducible refine (HCC.out _).mono ?_); rintro e X ⟨rfl, rfl⟩) | (go_at_call 49; (with_reducible refine HOO.out.mono ?_); rintro e X ⟨rfl, hb⟩))
      go_ret2
      exact ⟨rfl, hb⟩
    · have hA := HN.out hc
      subst hA
      have f1 : (C != 0) = true := bne_iff_ne.2 hc
      go_enter Tryz.func13, Tryz.ntmps13
      go_wp2_with (go_at_call 48; (with_reducible refine (HCC.out _).mono ?_); rintro e X ⟨rfl, rfl⟩)
      go_ret2
      exact ⟨rfl, Below.refl _ _⟩
  · rw [hi] at HO HN ⊢
    clear hi
    have f0 : decide (0 ≤ p) = true := decide_eq_true h0
    clear h0
    obtain ⟨b, hb⟩ : ∃ b, decide (p ≤ 1048576) = b := ⟨_, rfl⟩
    rw [hb] at HO HN ⊢
    obtain ⟨C, hC⟩ : ∃ C, ckE s o b = C := ⟨_, rfl⟩
    have HC2 := fun W => by have := HC.out b W; rw [hC] at this; exact this
    rw [hC] at HO HN ⊢
    have HCC := Lib.hid HC2
    clear HC HC2 hC
    by_cases hc : C = 0
    · have HOO := Lib.hid (HO.out hc)
      subst hc
      go_enter Tryz.func13, Tryz.ntmps13
      go_wp2_with (first | (go_at_call 48; (with_reducible refine (HCC.out _).mono ?_); rintro e X ⟨rfl, rfl⟩) | (go_at_call 49; (with_reducible refine HOO.out.mono ?_); rintro e X ⟨rfl, hb2⟩))
      go_ret2
      exact ⟨rfl, hb2⟩
    · have hA := HN.out hc
      subst hA
      have f1 : (C != 0) = true := bne_iff_ne.2 hc
      go_enter Tryz.func13, Tryz.ntmps13
      go_wp2_with (go_at_call 48; (with_reducible refine (HCC.out _).mono ?_); rintro e X ⟨rfl, rfl⟩)
      go_ret2
      exact ⟨rfl, Below.refl _ _⟩
/-! Find -/
def firstA (f : Nat → Int) (a : Int) (n : Nat) : Option Nat := (List.range n).find? (fun p => decide (f p = a))
theorem firstA_some {f : Nat → Int} {a : Int} {n k : Nat} (h : k < n) (hk : f k = a) (hb : ∀ q, q < k → f q ≠ a) : firstA f a n = some k := by
  unfold firstA
  rw [List.find?_range_eq_some]
  exact ⟨decide_eq_true hk, by simpa using h, fun j hj => by simpa using hb j hj⟩
theorem firstA_none {f : Nat → Int} {a : Int} {n : Nat} (hb : ∀ q, q < n → f q ≠ a) : firstA f a n = none := by
  unfold firstA
  rw [List.find?_range_eq_none]
  exact fun j hj => by simpa using hb j hj
def optV : Option Nat → Int × Bool
  | some k => (k, true)
  | none => (0, false)
def findV (s n o a : Int) : Int × Bool := if ckE s o (manyP n) = 0 then optV (firstA (fun p => aliasN s p o) a n.toNat) else (0, false)
abbrev fv (q : Int × Bool) (e : Int) : Value := .tuple #[.int .i64 q.1, .bool q.2, .int .i64 e]
theorem ret_find (tmps : Array Value) (W : World) (x y z : Value) (h8 : tmps[8]?.getD undef = x) (h9 : tmps[9]?.getD undef = y) (h10 : tmps[10]?.getD undef = z) :
    (results Tryz.f18 tmps).run Tryz.prog W = .ok (.tuple #[x, y, z]) W := by
  simp [results, Tryz.f18, go_sem, h8, h9, h10]
set_option maxRecDepth 100000 in
set_option maxHeartbeats 2000000 in
theorem find_bad (s n o a : Int) (w : World) (hc : ckE s o (manyP n) ≠ 0) :
    Calls Tryz.prog 18 #[.int .i64 s, .int .i64 n, .int .i64 o, .int .i64 a] w fun e w' => e = .returned (fv (0, false) (ckE s o (manyP n))) ∧ Below w.heap.size w w' := by
  have hck := fun (ok : Bool) (W : World) => acheck_any s o ok W
  have HC := Lib.hid hck
  clear hck
  unfold manyP at hc ⊢
  rcases idP_cases n 1024 with ⟨h0, hi⟩ | ⟨h0, hi⟩
  · rw [hi] at hc ⊢
    have f0 : decide (0 ≤ n) = false := decide_eq_false (by omega)
    obtain ⟨C, hC⟩ : ∃ C, ckE s o false = C := ⟨_, rfl⟩
    have HC2 := fun W => by have := HC.out false W; rw [hC] at this; exact this
    rw [hC] at hc ⊢
    have HCC := Lib.hid HC2
    have f1 : (C != 0) = true := bne_iff_ne.2 hc
    clear HC HC2 hC h0 hi hc
    go_enter Tryz.func18, Tryz.ntmps18
    go_wp2_with (go_at_call 48; (with_reducible refine (HCC.out _).mono ?_); rintro e X ⟨rfl, rfl⟩)
    exact bodyPost_ret (ret_find _ _ _ _ _ rfl rfl rfl) rfl ⟨rfl, Below.refl _ _⟩
  · rw [hi] at hc ⊢
    have f0 : decide (0 ≤ n) = true := decide_eq_true h0
    obtain ⟨b, hb⟩ : ∃ b, decide (n ≤ 1024) = b := ⟨_, rfl⟩
    rw [hb] at hc ⊢
    obtain ⟨C, hC⟩ : ∃ C, ckE s o b = C := ⟨_, rfl⟩
    have HC2 := fun W => by have := HC.out b W; rw [hC] at this; exact this
    rw [hC] at hc ⊢
    have HCC := Lib.hid HC2
    have f1 : (C != 0) = true := bne_iff_ne.2 hc
    clear HC HC2 hC h0 hi hc
    go_enter Tryz.func18, Tryz.ntmps18
    go_wp2_with (go_at_call 48; (with_reducible refine (HCC.out _).mono ?_); rintro e X ⟨rfl, rfl⟩)
    exact bodyPost_ret (ret_find _ _ _ _ _ rfl rfl rfl) rfl ⟨rfl, Below.refl _ _⟩
set_option maxRecDepth 100000 in
set_option maxHeartbeats 4000000 in
theorem find_good (s n o a : Int) (w : World) (hT : TabOK w) (hc : ckE s o (manyP n) = 0) :
    Calls Tryz.prog 18 #[.int .i64 s, .int .i64 n, .int .i64 o, .int .i64 a] w fun e w' => e = .returned (fv (optV (firstA (fun p => aliasN s p o) a n.toNat)) 0) ∧ Below w.heap.size w w' := by
  have hck := acheck_any s o true w
  obtain ⟨h1, h2, h3⟩ := ckE_0 hc
  rw [h2] at hc
  rw [hc] at hck
  have HC := Lib.hid hck
  unfold manyP at h2
  simp only [Bool.and_eq_true, decide_eq_true_eq] at h2
  obtain ⟨N, rfl⟩ : ∃ N : Nat, n = (N : Int) := ⟨n.toNat, by omega⟩
  rw [Int.toNat_natCast]
  have hof := fun (k : Nat) (hk : k < N) (W : World) (hb : Below w.heap.size w W) => of_any s k o (small3 ⟨by omega, by omega⟩ ⟨by omega, by omega⟩ ⟨by omega, by omega⟩) W (hT.below hb)
  have f0 : decide (0 ≤ (N : Int)) = true := decide_eq_true h2.1
  have f1 : decide ((N : Int) ≤ 1024) = true := decide_eq_true h2.2
  obtain ⟨F, hF⟩ : ∃ F : Nat → Int, (fun p : Nat => aliasN s p o) = F := ⟨_, rfl⟩
  have hFk : ∀ k : Nat, aliasN s k o = F k := fun k => congrFun hF k
  rw [hF]
  have hof2 := fun (k : Nat) (hk : k < N) (W : World) (hb : Below w.heap.size w W) => by have := hof k hk W hb; rw [hFk k] at this; exact this
  have HO := Lib.hid hof2
  have hN : N ≤ 1024 := by omega
  clear hck hof hof2 hF hFk h1 h2 h3 hc hT
  go_enter Tryz.func18, Tryz.ntmps18
  go_wp2_with (go_at_call 48; (with_reducible refine HC.out.mono ?_); rintro e X ⟨rfl, hX⟩; subst X)
  go_loopg [25] N (fun g iv wr => ∃ k : Nat, iv = .int .i64 k ∧ k + g = N ∧ Below w.heap.size w wr ∧ ∀ q, q < k → F q ≠ a)
  case atStart => exact ⟨0, rfl, by omega, Below.refl _ _, fun q hq => by omega⟩
  case round =>
    obtain ⟨k, rfl, hkg, hBr, hall⟩ := hrel
    have HA := Lib.hid hall
    clear hall
    by_cases hlt : k < N
    · have hofk := HO.out k hlt wr hBr
      have HOK := Lib.hid hofk
      have t1 : decide ((k : Int) < N) = true := decide_eq_true (by omega)
      clear hofk f0 f1
      obtain ⟨x, hx⟩ : ∃ x, F k = x := ⟨_, rfl⟩
      rw [hx] at HOK
      by_cases hxa : x = a
      · have hfirst := firstA_some hlt (hx.trans hxa) HA.out
        have HF := Lib.hid hfirst
        have t2 : (x == a) = true := by rw [hxa]; exact beq_self_eq_true a
        clear hxa hx hfirst
        go_wp2_with (go_at_call 49; (with_reducible refine HOK.out.mono ?_); rintro e X ⟨rfl, hb2⟩)
        rw [HF.out]
        exact bodyPost_ret (ret_find _ _ _ _ _ rfl rfl rfl) rfl ⟨rfl, hBr.trans (hb2.mono hBr.size)⟩
      · have t2 : (x == a) = false := beq_eq_false_iff_ne.2 hxa
        have HX := Lib.hid hx
        have HXA := Lib.hid hxa
        clear hxa hx
        go_wp2_with (go_at_call 49; (with_reducible refine HOK.out.mono ?_); rintro e X ⟨rfl, hb2⟩)
        go_roundg (gk - 1)
        case measure => omega
        case rel => exact ⟨k + 1, by first | rfl | go_num, by omega, hBr.trans (hb2.mono hBr.size), fun q hq => by
          by_cases hqk : q = k
          · subst hqk; rw [HX.out]; exact HXA.out
          · exact HA.out q (by omega)⟩
    · obtain rfl : k = N := by omega
      have hfirst := firstA_none HA.out
      have HF := Lib.hid hfirst
      clear hfirst f0 f1
      go_wp2
      rw [HF.out]
      exact bodyPost_ret (ret_find _ _ _ _ _ rfl rfl rfl) rfl ⟨rfl, hBr⟩
theorem find_any (s n o a : Int) (w : World) (hT : TabOK w) :
    Calls Tryz.prog 18 #[.int .i64 s, .int .i64 n, .int .i64 o, .int .i64 a] w fun e w' => e = .returned (fv (findV s n o a) (ckE s o (manyP n))) ∧ Below w.heap.size w w' := by
  unfold findV
  by_cases hc : ckE s o (manyP n) = 0
  · rw [if_pos hc]
    have := find_good s n o a w hT hc
    rw [← hc] at this; exact this
  · rw [if_neg hc]; exact find_bad s n o a w hc
end Go.Proofs.YthckledagggoiaaGreatDoor
