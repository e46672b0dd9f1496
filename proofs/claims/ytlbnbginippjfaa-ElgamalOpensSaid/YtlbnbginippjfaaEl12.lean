import Derived.Test.YtlbnbginippjfaaEl11
set_option linter.unusedSimpArgs false
set_option linter.unusedVariables false
namespace Go.Proofs.Ytlbnbginippjfaa
open Go.RowKit Go.Shelf Fk

set_option maxHeartbeats 400000 in
theorem refelement_any (n : Int) (w : World) :
    Calls Try.prog 42 #[.int .i64 n] w fun e w' => e = .returned (.tuple #[.int .i64 (elC n), .int .i64 (elE n)]) ∧ w = w' := by
  by_cases h : 1 ≤ n ∧ n ≤ 1073741789
  · have e2 : elE n = 0 := by unfold elE; rw [if_pos h]
    obtain ⟨h1, h2⟩ := h
    cases hv : vld n with
    | true =>
      have e1 : elC n = n := by unfold elC; rw [if_pos ⟨h1, h2⟩, hv]; rfl
      rw [e1, e2]
      clear e1 e2
      go_enter Try.func42, Try.ntmps42
      go_wp2_with (go_at_call 26; refine (refvalid_any _ _).mono ?_; rintro e w1 ⟨rfl, rfl⟩)
      go_ret2
      exact ⟨rfl, rfl⟩
    | false =>
      have e1 : elC n = 2147483579 - n := by unfold elC; rw [if_pos ⟨h1, h2⟩, hv]; rfl
      rw [e1, e2]
      clear e1 e2
      go_enter Try.func42, Try.ntmps42
      go_wp2_with (go_at_call 26; refine (refvalid_any _ _).mono ?_; rintro e w1 ⟨rfl, rfl⟩)
      go_ret2
      exact ⟨rfl, rfl⟩
  · have e2 : elE n = 1 := by unfold elE; rw [if_neg h]
    have e1 : elC n = 0 := by unfold elC; rw [if_neg h]
    rw [e1, e2]
    clear e1 e2
    by_cases h1 : n < 1
    · clear h
      go_enter Try.func42, Try.ntmps42
      go_wp2_with fail
      go_ret2
      exact ⟨rfl, rfl⟩
    · have h2 : 1073741789 < n := by omega
      clear h
      go_enter Try.func42, Try.ntmps42
      go_wp2_with fail
      go_ret2
      exact ⟨rfl, rfl⟩

set_option maxHeartbeats 400000 in
theorem rsecret_any (n : Int) (w : World) :
    Calls Try.prog 36 #[.int .i64 n] w fun e w' => e = .returned (.bool (secB n)) ∧ w = w' := by
  unfold secB
  by_cases h1 : 1 ≤ n
  · go_enter Try.func36, Try.ntmps36
    go_wp2
    go_ret
    exact ⟨by simp [h1], rfl⟩
  · have h2 : n < 1 := by omega
    have h3 : decide (1 ≤ n) = false := by simpa using h1
    clear h1
    go_enter Try.func36, Try.ntmps36
    go_wp2
    go_ret
    exact ⟨by simp [h3], rfl⟩

set_option maxHeartbeats 400000 in
theorem rpublic_any (n : Int) (w : World) :
    Calls Try.prog 13 #[.int .i64 n] w fun e w' => e = .returned (.tuple #[.int .i64 (pubC n), .int .i64 (pubE n)]) ∧ w = w' := by
  cases hs : secB n with
  | true =>
    have e1 : pubC n = powC 4 n := by simp [pubC, hs]
    have e2 : pubE n = 0 := by simp [pubE, hs]
    rw [e1, e2]
    clear e1 e2
    have hp := fun w => refpow_any 4 n w
    rw [powE_4] at hp
    generalize powC 4 n = p at *
    have HP := Lib.hid hp
    clear hp
    go_enter Try.func13, Try.ntmps13
    go_wp2_with (first | (go_at_call 36; refine (rsecret_any _ _).mono ?_; rintro e w1 ⟨rfl, rfl⟩) | (go_at_call 37; refine (HP.out _).mono ?_; rintro e w1 ⟨rfl, rfl⟩))
    go_ret2
    exact ⟨rfl, rfl⟩
  | false =>
    have e1 : pubC n = 0 := by simp [pubC, hs]
    have e2 : pubE n = 110 := by simp [pubE, hs]
    rw [e1, e2]
    clear e1 e2
    go_enter Try.func13, Try.ntmps13
    go_wp2_with (go_at_call 36; refine (rsecret_any _ _).mono ?_; rintro e w1 ⟨rfl, rfl⟩)
    go_ret2
    exact ⟨rfl, rfl⟩

set_option maxHeartbeats 1000000 in
theorem rjoin_any (l : List Int) (v : Value) (w : World) (B0 : Nat) (h : SlI w B0 v l) :
    Calls Try.prog 15 #[v] w fun e w' => e = .returned (.tuple #[.int .i64 (joinC l), .int .i64 (joinE l)]) ∧ w = w' := by
  have HS := Lib.hid h
  obtain ⟨hlen, A, c, rfl, _⟩ := h
  go_enter Try.func15, Try.ntmps15
  go_wp2_with fail
  go_loopg [4, 5] l.length (fun g x i wr => w = wr ∧ ∃ (k : Nat) (c : Int), i = .int .i64 k ∧ k + g = l.length ∧ x = .int .i64 c ∧ Hid (joinTo (l.take k) = some c))
  case atStart => exact ⟨rfl, 0, 1, rfl, by omega, rfl, rfl⟩
  case round =>
    obtain ⟨rfl, k, cc, rfl, hk, rfl, hj⟩ := hrel
    by_cases hlt : k < l.length
    · obtain ⟨_, A', c', hv, hE⟩ := HS.out
      obtain ⟨b, off, rfl, hb, hE⟩ := hE (by omega)
      cases hv
      have d1 := hE.int hlt
      have hg := fun h => join_step hlt hj.out h
      have hbad := fun h => join_bad hlt hj.out h
      obtain ⟨x, hx⟩ : ∃ x, l.getD k default = x := ⟨_, rfl⟩
      rw [hx] at d1 hg hbad
      have hm := fun w => refmul_any cc x w
      by_cases he : mulE cc x = 0
      · have hg' := Lib.hid (hg he)
        rw [he] at hm
        obtain ⟨m, hmm⟩ : ∃ m, mulC cc x = m := ⟨_, rfl⟩
        rw [hmm] at hm hg'
        have HM := Lib.hid hm
        clear hg hbad hm he hmm hx hE
        go_wp2_with (go_at_call 39; refine (HM.out _).mono ?_; rintro e w1 ⟨rfl, rfl⟩)
        go_roundg (gk - 1)
        case measure => omega
        case rel => exact ⟨rfl, k + 1, m, by go_num, by omega, rfl, hg'.out⟩
      · obtain ⟨b1, b2⟩ := hbad he
        have e1 : joinC l = 0 := by unfold joinC; rw [b1]; rfl
        have e2 : joinE l = 90 := by unfold joinE; rw [b1]; rfl
        rw [b2] at hm
        obtain ⟨m, hmm⟩ : ∃ m, mulC cc x = m := ⟨_, rfl⟩
        rw [hmm] at hm
        have HM := Lib.hid hm
        have E1 := Lib.hid e1
        have E2 := Lib.hid e2
        clear hg hbad hm he hmm hx hE b1 b2 e1 e2
        go_wp2_with (go_at_call 39; refine (HM.out _).mono ?_; rintro e w1 ⟨rfl, rfl⟩)
        go_ret2
        exact ⟨ret_int2 E1.out.symm E2.out.symm, rfl⟩
    · obtain rfl : k = l.length := by omega
      have e := hj.out
      rw [List.take_length] at e
      have e1 : joinC l = cc := by unfold joinC; rw [e]; rfl
      have e2 : joinE l = 0 := by unfold joinE; rw [e]; rfl
      have E1 := Lib.hid e1
      have E2 := Lib.hid e2
      clear e e1 e2 hj
      go_wp2_with fail
      go_ret2
      exact ⟨ret_int2 E1.out.symm E2.out.symm, rfl⟩

set_option maxHeartbeats 400000 in
theorem rtimes10_any (x y : Int) (hx : 0 ≤ x ∧ x < 2147483579) (hy : 0 ≤ y ∧ y < 2147483579) (w : World) :
    Calls Try.prog 44 #[.int .i64 x, .int .i64 y] w fun e w' => e = .returned (.int .i64 (x * y % 2147483579)) ∧ w = w' := by
  have m := mul_sm hx hy
  obtain ⟨hx1, hx2⟩ := hx
  obtain ⟨hy1, hy2⟩ := hy
  go_enter Try.func44, Try.ntmps44
  go_wp2
  go_ret
  exact ⟨rfl, rfl⟩
set_option maxHeartbeats 400000 in
theorem rpow10_any (a n : Int) (w : World) :
    Calls Try.prog 43 #[.int .i64 a, .int .i64 n] w fun e w' => e = .returned (.int .i64 (powC a n)) ∧ w = w' := by
  generalize hp : powC a n = p
  generalize hq : powE a = q
  have hP := fun w => refpow_any a n w
  rw [hp, hq] at hP
  have HP := Lib.hid hP
  clear hP hp hq
  go_enter Try.func43, Try.ntmps43
  go_wp2_with (go_at_call 37; refine (HP.out _).mono ?_; rintro e w1 ⟨rfl, rfl⟩)
  go_ret
  exact ⟨rfl, rfl⟩

set_option maxHeartbeats 1000000 in
theorem rcheck_any (s : Se) (w : World) :
    Calls Try.prog 27 #[s.val] w fun e w' => e = .returned (.int .i64 (chS s)) ∧ Below w.heap.size w w' := by
  have hR0 : RowS (w.alloc (.cells s.cells.toArray 34)) w.heap.size s := Row.new w _ _
  have HR := Lib.hid hR0
  clear hR0
  unfold Se.val
  go_enter Try.func27, Try.ntmps27
  go_wp2_with fail
  have hB := below_alloc w (.cells s.cells.toArray 34)
  obtain ⟨W1, hW1⟩ : ∃ W1 : World, w.alloc (.cells #[.int .i64 s.x.a, .int .i64 s.x.b, .int .i64 s.y.a, .int .i64 s.y.b, .int .i64 s.z.a, .int .i64 s.z.b] 34) = W1 := ⟨_, rfl⟩
  rw [hW1]
  replace HR : Hid (RowS W1 w.heap.size s) := by rw [← hW1]; exact HR
  replace hB : Below w.heap.size w W1 := by rw [← hW1]; exact hB
  clear hW1
  go_loopg [3] 3 (fun g i wr => W1 = wr ∧ ∃ k : Nat, i = .int .i64 k ∧ k + g = 3 ∧ Hid (∀ i, i < k → okC (s.get i) = true))
  case atStart => exact ⟨rfl, 0, rfl, by omega, fun i hi => by omega⟩
  case round =>
    obtain ⟨rfl, k, rfl, hk, h4⟩ := hrel
    by_cases hlt : k < 3
    · have c1 := HR.out.ca hlt
      have c2 := HR.out.cb hlt
      have hok : okC (s.get k) = (vld (s.get k).a && vld (s.get k).b) := rfl
      have hbad := okS_bad (s := s) (i := k)
      obtain ⟨c, hsk⟩ : ∃ c, s.get k = c := ⟨_, rfl⟩
      rw [hsk] at c1 c2 hok hbad
      have hall : okC c = true → ∀ i, i < k + 1 → okC (s.get i) = true := fun hc i hi => by
        by_cases e : i = k
        · rw [e, hsk]; exact hc
        · exact h4.out i (by omega)
      have H4 := Lib.hid hall
      have HB := Lib.hid hbad
      have HO := Lib.hid hok
      have s5 : (0 : Int) ≤ k := by omega
      have s6 : (k : Int) < 3 := by omega
      clear hall hsk h4 hbad hok
      by_cases ha : vld c.a = true ∧ vld c.b = true
      · obtain ⟨ha, hb⟩ := ha
        go_wp2_with (go_at_call 26; refine (refvalid_any _ _).mono ?_; rintro e w' ⟨rfl, rfl⟩)
        go_roundg (gk - 1)
        case measure => omega
        case rel => exact ⟨rfl, k + 1, by go_num, by omega, H4.out (by rw [HO.out, ha, hb]; rfl)⟩
      · have hf : chS s = 100 := by unfold chS; rw [HB.out (by rw [HO.out]; cases hva : vld c.a <;> cases hvb : vld c.b <;> simp_all)]; rfl
        have HF := Lib.hid hf
        clear hf
        cases hva : vld c.a with
        | true =>
          have hvb : vld c.b = false := by cases hvb : vld c.b <;> simp_all
          clear ha
          go_wp2_with (go_at_call 26; refine (refvalid_any _ _).mono ?_; rintro e w' ⟨rfl, rfl⟩)
          go_ret
          exact ⟨ret_int HF.out.symm, hB⟩
        | false =>
          clear ha
          go_wp2_with (go_at_call 26; refine (refvalid_any _ _).mono ?_; rintro e w' ⟨rfl, rfl⟩)
          go_ret
          exact ⟨ret_int HF.out.symm, hB⟩
    · obtain rfl : k = 3 := by omega
      have hf : chS s = 0 := by unfold chS; rw [if_pos (okS_all h4.out)]
      have HF := Lib.hid hf
      clear hf h4
      go_wp2_with fail
      go_ret
      exact ⟨ret_int HF.out.symm, hB⟩
end Go.Proofs.Ytlbnbginippjfaa
