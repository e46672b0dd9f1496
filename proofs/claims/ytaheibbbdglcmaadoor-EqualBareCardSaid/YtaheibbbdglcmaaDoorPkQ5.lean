import Derived.Test.YtaheibbbdglcmaaDoorPkQm
import Derived.Deep.LoopGhost
import Derived.Deep.Cut
set_option linter.unusedSimpArgs false
set_option linter.unusedVariables false
namespace Go.Proofs.YtaheibbbdglcmaaDoor
open Go.RowKit Go.Shelf Fk Sha
/-! EqualBare: what Bare returns is right, and is what Strip returns. -/
set_option maxHeartbeats 1000000 in
theorem rcheck_any (s : Se) (w : World) :
    Calls Tryd.prog 31 #[s.val] w fun e w' => e = .returned (.int .i64 (chS s)) ∧ Below w.heap.size w w' := by
  have hR0 : RowS (w.alloc (.cells s.cells.toArray 55)) w.heap.size s := Row.new w _ _
  have HR := Lib.hid hR0
  clear hR0
  unfold Se.val
  go_enter Tryd.func31, Tryd.ntmps31
  go_wp2_with fail
  have hB := below_alloc w (.cells s.cells.toArray 55)
  obtain ⟨W1, hW1⟩ : ∃ W1 : World, w.alloc (.cells #[.int .i64 s.x.a, .int .i64 s.x.b, .int .i64 s.y.a, .int .i64 s.y.b, .int .i64 s.z.a, .int .i64 s.z.b] 55) = W1 := ⟨_, rfl⟩
  rw [hW1]
  replace HR : Hid (RowS W1 w.heap.size s) := by rw [← hW1]; exact HR
  replace hB : Below w.heap.size w W1 := by rw [← hW1]; exact hB
  clear hW1
  go_loopg [3] 3 (fun g i wr => W1 = wr ∧ ∃ k : Nat, i = .int .i64 k ∧ k + g = 3 ∧ Hid (∀ i, i < k → okC (s.get i) = true))
  case atStart => exact ⟨rfl, 0, rfl, by omega, fun i hi => by omega⟩
  case round =>
    obtain ⟨rfl, k, rfl, hk, h4⟩ := hrel
    by_cases hlt : k < 3
    · have c1 := HR.out.ca hlt
      have c2 := HR.out.cb hlt
      have hok : okC (s.get k) = (vld (s.get k).a && vld (s.get k).b) := rfl
      have hbad := okS_bad (s := s) (i := k)
      obtain ⟨c, hsk⟩ : ∃ c, s.get k = c := ⟨_, rfl⟩
      rw [hsk] at c1 c2 hok hbad
      have hall : okC c = true → ∀ i, i < k + 1 → okC (s.get i) = true := fun hc i hi => by
        by_cases e : i = k
        · rw [e, hsk]; exact hc
        · exact h4.out i (by omega)
      have H4 := Lib.hid hall
      have HB := Lib.hid hbad
      have HO := Lib.hid hok
      have s5 : (0 : Int) ≤ k := by omega
      have s6 : (k : Int) < 3 := by omega
      clear hall hsk h4 hbad hok
      by_cases ha : vld c.a = true ∧ vld c.b = true
      · obtain ⟨ha, hb⟩ := ha
        go_wp2_with (go_at_call 27; refine (refvalid_any _ _).mono ?_; rintro e w' ⟨rfl, rfl⟩)
        go_roundg (gk - 1)
        case measure => omega
        case rel => exact ⟨rfl, k + 1, by go_num, by omega, H4.out (by rw [HO.out, ha, hb]; rfl)⟩
      · have hf : chS s = 100 := by unfold chS; rw [HB.out (by rw [HO.out]; cases hva : vld c.a <;> cases hvb : vld c.b <;> simp_all)]; rfl
        have HF := Lib.hid hf
        clear hf
        cases hva : vld c.a with
        | true =>
          have hvb : vld c.b = false := by cases hvb : vld c.b <;> simp_all
          clear ha
          go_wp2_with (go_at_call 27; refine (refvalid_any _ _).mono ?_; rintro e w' ⟨rfl, rfl⟩)
          go_ret
          exact ⟨ret_int HF.out.symm, hB⟩
        | false =>
          clear ha
          go_wp2_with (go_at_call 27; refine (refvalid_any _ _).mono ?_; rintro e w' ⟨rfl, rfl⟩)
          go_ret
          exact ⟨ret_int HF.out.symm, hB⟩
    · obtain rfl : k = 3 := by omega
      have hf : chS s = 0 := by unfold chS; rw [if_pos (okS_all h4.out)]
      have HF := Lib.hid hf
      clear hf h4
      go_wp2_with fail
      go_ret
      exact ⟨ret_int HF.out.symm, hB⟩
set_option maxRecDepth 100000 in
theorem few_any (A : Option Addr) (n c : Nat) (w : World) :
    Calls Tryd.prog 29 #[.slice A n c] w fun e w' => e = .returned (.bool (decide (n ≤ 6) || (decide (64 < n) && decide (n ≤ 80)))) ∧ w = w' := by
  by_cases h1 : n ≤ 6
  · have g1 : decide ((n : Int) ≤ 6) = true := decide_eq_true (by omega)
    rw [decide_eq_true h1, Bool.true_or]
    clear h1
    go_enter Tryd.func29, Tryd.ntmps29
    go_wp2_with fail
    go_ret
    exact ⟨rfl, rfl⟩
  · have g1 : decide ((n : Int) ≤ 6) = false := decide_eq_false (by omega)
    rw [decide_eq_false h1, Bool.false_or]
    by_cases h2 : 64 < n
    · have g2 : decide ((n : Int) > 64) = true := decide_eq_true (by omega)
      have g2' : decide ((64 : Int) < n) = true := decide_eq_true (by omega)
      rw [decide_eq_true h2, Bool.true_and]
      by_cases h3 : n ≤ 80
      · have g3 : decide ((n : Int) ≤ 80) = true := decide_eq_true (by omega)
        rw [decide_eq_true h3]
        clear h1 h2 h3
        go_enter Tryd.func29, Tryd.ntmps29
        go_wp2_with fail
        go_ret
        exact ⟨rfl, rfl⟩
      · have g3 : decide ((n : Int) ≤ 80) = false := decide_eq_false (by omega)
        rw [decide_eq_false h3]
        clear h1 h2 h3
        go_enter Tryd.func29, Tryd.ntmps29
        go_wp2_with fail
        go_ret
        exact ⟨rfl, rfl⟩
    · have g2 : decide ((n : Int) > 64) = false := decide_eq_false (by omega)
      have g2' : decide ((64 : Int) < n) = false := decide_eq_false (by omega)
      rw [decide_eq_false h2, Bool.false_and]
      clear h1 h2
      go_enter Tryd.func29, Tryd.ntmps29
      go_wp2_with fail
      go_ret
      exact ⟨rfl, rfl⟩
/-! ### the plain law -/
theorem in_mul {a b : Int} (ha : vld a = true) (hb : vld b = true) : a * b % 2147483579 = mulC a b := by unfold mulC; simp [ha, hb]
theorem strip_bare {n : Int} {i : Nat} {c : Ci} (h : okC c = true) : stripC n i c = bareC n i c := by
  obtain ⟨ha, hb⟩ := okC_iff.1 h
  unfold stripC bareC
  rw [pow_mul' ha, in_mul hb (vld_powC ha _)]
  have : n * -1 = -n := by omega
  rw [this]
theorem strp_bare {n : Int} {s : Se} (hs : secB n = true) (h : okS s = true) : strpC n s = bareS n s ∧ strpE n s = 0 := by
  obtain ⟨h1, h2, h3⟩ := okS_iff.1 h
  refine ⟨?_, by unfold strpE chS; rw [hs, h]; rfl⟩
  unfold strpC
  rw [hs, h]
  show Se.map (stripC n) s = Se.map (bareC n) s
  unfold Se.map
  rw [strip_bare h1, strip_bare h2, strip_bare h3]
theorem bare_more {n e r : Int} (he : vld e = true) : mulC (mulC e (powC (powC 4 n) r)) (powC (powC (powC 4 r) n) (-1)) = e := by
  rw [pow_mul' vld_4 n r, pow_mul' vld_4 r n, Int.mul_comm r n]
  exact mul_mul_inv he (vld_powC vld_4 _)
theorem more_inB {n e r : Int} (he : vld e = true) : (⟨1 * powC 4 r % 2147483579, e * powC (powC 4 n) r % 2147483579⟩ : Ci) = ⟨powC 4 r, mulC e (powC (powC 4 n) r)⟩ := by
  rw [in_mul vld_1 (vld_powC vld_4 _), one_mul' (vld_powC vld_4 _), in_mul he (vld_powC (vld_powC vld_4 _) _)]
theorem wOK_vld {t : Tr} (h : wOK t = true) : (vld (elC t.p) = true ∧ vld (elC t.q) = true ∧ vld (elC t.r) = true) ∧ (numC (elC t.p) = t.p ∧ numC (elC t.q) = t.q ∧ numC (elC t.r) = t.r) := by
  unfold wOK at h
  simp only [Bool.and_eq_true, elE_iff] at h
  obtain ⟨⟨a1, a2⟩, ⟨b1, b2⟩, ⟨c1, c2⟩⟩ := h
  exact ⟨⟨vld_el a1 a2, vld_el b1 b2, vld_el c1 c2⟩, num_el a1 a2, num_el b1 b2, num_el c1 c2⟩
theorem cell_okC {a b : Int} (ha : vld a = true) (hb : vld b = true) : okC ⟨a, b⟩ = true := okC_iff.2 ⟨ha, hb⟩
theorem cell_bare1 {n e r : Int} (he : vld e = true) : okC ⟨powC 4 r, mulC e (powC (powC 4 n) r)⟩ = true := cell_okC (vld_powC vld_4 r) (vld_mul he (vld_powC (vld_powC vld_4 n) r))
theorem cell_bareb {n a b : Int} (k : Nat) : (bareC n k ⟨a, b⟩).b = mulC b (powC (powC a n) (-1)) := rfl
theorem cell_bare2 {n e r : Int} (he : vld e = true) (k : Nat) : (bareC n k ⟨powC 4 r, mulC e (powC (powC 4 n) r)⟩).b = e := (cell_bareb k).trans (bare_more he)
theorem seal_bare {n : Int} {t r : Tr} (hw : wOK t = true) : sealE (powC 4 n) t = 0 ∧ okS (sealC (powC 4 n) t r) = true ∧ okS (bareS n (sealC (powC 4 n) t r)) = true ∧ readC (bareS n (sealC (powC 4 n) t r)) = t := by
  obtain ⟨⟨h1, h2, h3⟩, e1, e2, e3⟩ := wOK_vld hw
  have hk := vld_powC vld_4 n
  have hs : sealC (powC 4 n) t r = ⟨⟨powC 4 r.p, mulC (elC t.p) (powC (powC 4 n) r.p)⟩, ⟨powC 4 r.q, mulC (elC t.q) (powC (powC 4 n) r.q)⟩, ⟨powC 4 r.r, mulC (elC t.r) (powC (powC 4 n) r.r)⟩⟩ := by
    unfold sealC
    rw [hk, hw]
    show (⟨⟨1 * powC 4 r.p % 2147483579, elC t.p * powC (powC 4 n) r.p % 2147483579⟩, ⟨1 * powC 4 r.q % 2147483579, elC t.q * powC (powC 4 n) r.q % 2147483579⟩, ⟨1 * powC 4 r.r % 2147483579, elC t.r * powC (powC 4 n) r.r % 2147483579⟩⟩ : Se) = _
    rw [more_inB h1, more_inB h2, more_inB h3]
  have hok : okS (sealC (powC 4 n) t r) = true := by
    rw [hs]
    exact okS_iff.2 ⟨cell_bare1 h1, cell_bare1 h2, cell_bare1 h3⟩
  have hokb := okS_bare (n := n) hok
  have ex : (bareS n (sealC (powC 4 n) t r)).x.b = elC t.p := by rw [hs]; exact cell_bare2 h1 0
  have ey : (bareS n (sealC (powC 4 n) t r)).y.b = elC t.q := by rw [hs]; exact cell_bare2 h2 1
  have ez : (bareS n (sealC (powC 4 n) t r)).z.b = elC t.r := by rw [hs]; exact cell_bare2 h3 2
  refine ⟨by unfold sealE; rw [hk, hw]; rfl, hok, hokb, ?_⟩
  unfold readC
  rw [if_pos hokb, ex, ey, ez, e1, e2, e3]
theorem made2b (w : World) (v1 v2 : List Value) (t1 t2 : TypeId) :
    ∃ W, ((w.alloc (.cells v1.toArray t1)).alloc (.cells v2.toArray t2)) = W ∧ Below w.heap.size w W ∧ Row W w.heap.size t1 v1 ∧ Row W (w.heap.size + 1) t2 v2 :=
  ⟨_, rfl, ((Below.refl _ _).alloc (Nat.le_refl _) _).alloc (by simp) _, (Row.new w t1 v1).alloc _, row_size (by simp) t2 v2⟩
set_option maxRecDepth 100000 in
set_option maxHeartbeats 4000000 in
theorem ebare_few (n : Int) (l : List Se) (A : Option Addr) (c : Nat) (t r : Tr) (w : World) (hT : TabOK w) (h : ¬ ((l.length ≤ 6 ∨ (64 < l.length ∧ l.length ≤ 80)) ∧ secB n = true)) :
    Calls Tryd.prog 9 #[.int .i64 n, .slice A l.length c, t.val, r.val] w fun e w' => e = .returned (.bool true) ∧ Below w.heap.size w w' := by
  have sn := fun W (hb : Below w.heap.size w W) => sane12 W (hT.below hb)
  have f1 := fun W => few_any A l.length c W
  have q1 := fun W => public_any n W
  obtain ⟨fw, hfw⟩ : ∃ v, (decide (l.length ≤ 6) || (decide (64 < l.length) && decide (l.length ≤ 80))) = v := ⟨_, rfl⟩
  rw [hfw] at f1
  unfold Tr.val
  generalize t.p = tp at *
  generalize t.q = tq at *
  generalize t.r = tr at *
  generalize r.p = rp at *
  generalize r.q = rq at *
  generalize r.r = rr at *
  have hB := ((Below.refl w.heap.size w).alloc (Nat.le_refl _) (.cells #[.int .i64 tp, .int .i64 tq, .int .i64 tr] 50)).alloc (by simp) (.cells #[.int .i64 rp, .int .i64 rq, .int .i64 rr] 49)
  obtain ⟨W, hW⟩ : ∃ W, (w.alloc (.cells #[.int .i64 tp, .int .i64 tq, .int .i64 tr] 50)).alloc (.cells #[.int .i64 rp, .int .i64 rq, .int .i64 rr] 49) = W := ⟨_, rfl⟩
  rw [hW] at hB
  have SN := Lib.hid sn
  have F1 := Lib.hid f1
  cases fw with
  | false =>
    clear sn f1 q1 hfw h hT
    go_enter Tryd.func9, Tryd.ntmps9
    go_upto_region 1 with fail
    clear hW
    go_wp2_with (first
      | (go_at_call 18; (with_reducible refine (SN.out _ hB).mono ?_); rintro e w1 ⟨rfl, hb⟩; replace hB := hB.trans (hb.mono hB.size); clear hb)
      | (go_at_call 29; (with_reducible refine (F1.out _).mono ?_); rintro e w2 ⟨rfl, rfl⟩))
    go_ret
    exact ⟨rfl, hB⟩
  | true =>
    have hs : secB n = false := by
      cases hs : secB n with
      | false => rfl
      | true =>
        simp only [Bool.or_eq_true, Bool.and_eq_true, decide_eq_true_eq] at hfw
        exact absurd ⟨hfw, hs⟩ h
    rw [show pubE n = 110 by unfold pubE; rw [hs]; rfl] at q1
    obtain ⟨K, hK⟩ : ∃ K, pubC n = K := ⟨_, rfl⟩
    rw [hK] at q1
    have Q1 := Lib.hid q1
    clear sn f1 q1 hfw h hs hK hT
    go_enter Tryd.func9, Tryd.ntmps9
    go_upto_region 1 with fail
    clear hW
    go_wp2_with (first
      | (go_at_call 18; (with_reducible refine (SN.out _ hB).mono ?_); rintro e w1 ⟨rfl, hb⟩; replace hB := hB.trans (hb.mono hB.size); clear hb)
      | (go_at_call 29; (with_reducible refine (F1.out _).mono ?_); rintro e w2 ⟨rfl, rfl⟩)
      | (go_at_call 26; (with_reducible refine (Q1.out _).mono ?_); rintro e w3 ⟨rfl, hb⟩; replace hB := hB.trans (hb.mono hB.size); clear hb))
    go_ret
    exact ⟨rfl, hB⟩
set_option maxRecDepth 100000 in
set_option maxHeartbeats 8000000 in
theorem ebare_ne (n : Int) (l : List Se) (A : Option Addr) (c : Nat) (t r : Tr) (w : World) (hT : TabOK w) (hl : SlS w w.heap.size (.slice A l.length c) l) (hf : l.length ≤ 6 ∨ (64 < l.length ∧ l.length ≤ 80)) (hs : secB n = true) (hw : wOK t = false) (hne : bareE n l ≠ 0) :
    Calls Tryd.prog 9 #[.int .i64 n, .slice A l.length c, t.val, r.val] w fun e w' => e = .returned (.bool true) ∧ Below w.heap.size w w' := by
  have sn := fun W (hb : Below w.heap.size w W) => sane12 W (hT.below hb)
  have f1 := fun W => few_any A l.length c W
  have q1 := fun W => public_any n W
  rw [show (decide (l.length ≤ 6) || (decide (64 < l.length) && decide (l.length ≤ 80))) = true by simpa using hf] at f1
  rw [pubE_0 hs, show pubC n = powC 4 n by unfold pubC; rw [if_pos hs]] at q1
  have z1 := fun W => seal_any (powC 4 n) t r W
  have b2 := fun W (hb : Below w.heap.size w W) => bare_any n l A c W (hT.below hb) ((hl.below hb).mono hb.size)
  replace b2 : ∀ W, Below w.heap.size w W → Calls Tryd.prog 32 #[.int .i64 n, .slice A l.length c] W fun e w' => e = .returned (.tuple #[.slice none 0 0, .slice none 0 0, .int .i64 (bareE n l)]) ∧ Below W.heap.size W w' := fun W hb => by
    refine (b2 W hb).mono ?_
    rintro e w' ⟨hb', ⟨_, rfl⟩ | ⟨h, _⟩⟩
    · exact ⟨rfl, hb'⟩
    · exact absurd h hne
  obtain ⟨be, hbe2⟩ : ∃ be, bareE n l = be := ⟨_, rfl⟩
  rw [hbe2] at b2 hne
  have hneq : (be != 0) = true := by simp [hne]
  have hE : sealE (powC 4 n) t ≠ 0 := by unfold sealE; rw [vld_powC vld_4 n, hw]; decide
  obtain ⟨X, hX⟩ : ∃ X, powC 4 n = X := ⟨_, rfl⟩
  rw [hX] at q1 z1 hE
  obtain ⟨ze, hze⟩ : ∃ ze, sealE X t = ze := ⟨_, rfl⟩
  rw [hze] at z1 hE
  have hzq : (ze == 0) = false := beq_eq_false_iff_ne.2 hE
  obtain ⟨S, hS⟩ : ∃ S, sealC X t r = S := ⟨_, rfl⟩
  rw [hS] at z1
  unfold Se.val Tr.val at z1
  unfold Tr.val
  generalize t.p = tp at *
  generalize t.q = tq at *
  generalize t.r = tr at *
  generalize r.p = rp at *
  generalize r.q = rq at *
  generalize r.r = rr at *
  generalize S.x.a = xa at *
  generalize S.x.b = xb at *
  generalize S.y.a = ya at *
  generalize S.y.b = yb at *
  generalize S.z.a = za at *
  generalize S.z.b = zb at *
  have SN := Lib.hid sn
  have F1 := Lib.hid f1
  have Q1 := Lib.hid q1
  have Z1 := Lib.hid z1
  have B2 := Lib.hid b2
  clear sn f1 q1 z1 b2 hT hl hf hs hbe2 hne hE hX hze hS hw
  obtain ⟨W, hW, hB, r6, r7⟩ := made2b w [.int .i64 tp, .int .i64 tq, .int .i64 tr] [.int .i64 rp, .int .i64 rq, .int .i64 rr] 50 49
  go_enter Tryd.func9, Tryd.ntmps9
  go_upto_region 1 with fail
  clear hW
  go_upto_region 8 with (first
    | (go_at_call 18; (with_reducible refine (SN.out _ hB).mono ?_); rintro e w1 ⟨rfl, hb⟩; replace r6 := r6.below hb r6.lt; replace r7 := r7.below hb r7.lt; replace hB := hB.trans (hb.mono hB.size); clear hb)
    | (go_at_call 29; (with_reducible refine (F1.out _).mono ?_); rintro e w2 ⟨rfl, rfl⟩)
    | (go_at_call 26; (with_reducible refine (Q1.out _).mono ?_); rintro e w3 ⟨rfl, hb⟩; replace r6 := r6.below hb r6.lt; replace r7 := r7.below hb r7.lt; replace hB := hB.trans (hb.mono hB.size); clear hb))
  obtain ⟨t0, t1, t2⟩ := st3' r6
  obtain ⟨u0, u1, u2⟩ := st3' r7
  go_upto_region 9 with (go_at_call 30; (with_reducible refine (Z1.out _).mono ?_); rintro e w4 ⟨rfl, hb⟩; replace r6 := r6.below hb r6.lt; replace hB := hB.trans (hb.mono hB.size); clear hb)
  clear t0 t1 t2 u0 u1 u2 r7
  have rs := Row.new w4 55 [.int .i64 xa, .int .i64 xb, .int .i64 ya, .int .i64 yb, .int .i64 za, .int .i64 zb]
  replace hB := hB.alloc hB.size (.cells #[.int .i64 xa, .int .i64 xb, .int .i64 ya, .int .i64 yb, .int .i64 za, .int .i64 zb] 55)
  replace r6 := r6.alloc (.cells #[.int .i64 xa, .int .i64 xb, .int .i64 ya, .int .i64 yb, .int .i64 za, .int .i64 zb] 55)
  obtain ⟨W4, hW4⟩ : ∃ W, w4.alloc (.cells #[.int .i64 xa, .int .i64 xb, .int .i64 ya, .int .i64 yb, .int .i64 za, .int .i64 zb] 55) = W := ⟨_, rfl⟩
  replace rs : Row W4 w4.heap.size 55 [.int .i64 xa, .int .i64 xb, .int .i64 ya, .int .i64 yb, .int .i64 za, .int .i64 zb] := hW4 ▸ rs
  rw [hW4] at hB r6 ⊢
  clear hW4
  generalize w4.heap.size = g4 at *
  clear r6 rs
  go_upto_region 16 with fail
  go_wp2_with (go_at_call 32; (with_reducible refine (B2.out _ hB).mono ?_); rintro e w9 ⟨rfl, hb⟩; replace hB := hB.trans (hb.mono hB.size); clear hb)
  go_ret
  exact ⟨rfl, hB⟩
set_option maxRecDepth 100000 in
set_option maxHeartbeats 8000000 in
theorem ebare_ye (n : Int) (l : List Se) (A : Option Addr) (c : Nat) (t r : Tr) (w : World) (hT : TabOK w) (hl : SlS w w.heap.size (.slice A l.length c) l) (hf : l.length ≤ 6 ∨ (64 < l.length ∧ l.length ≤ 80)) (hs : secB n = true) (hw : wOK t = true) (hne : bareE n l ≠ 0) :
    Calls Tryd.prog 9 #[.int .i64 n, .slice A l.length c, t.val, r.val] w fun e w' => e = .returned (.bool true) ∧ Below w.heap.size w w' := by
  have sn := fun W (hb : Below w.heap.size w W) => sane12 W (hT.below hb)
  have f1 := fun W => few_any A l.length c W
  have q1 := fun W => public_any n W
  rw [show (decide (l.length ≤ 6) || (decide (64 < l.length) && decide (l.length ≤ 80))) = true by simpa using hf] at f1
  rw [pubE_0 hs, show pubC n = powC 4 n by unfold pubC; rw [if_pos hs]] at q1
  have z1 := fun W => seal_any (powC 4 n) t r W
  have b2 := fun W (hb : Below w.heap.size w W) => bare_any n l A c W (hT.below hb) ((hl.below hb).mono hb.size)
  replace b2 : ∀ W, Below w.heap.size w W → Calls Tryd.prog 32 #[.int .i64 n, .slice A l.length c] W fun e w' => e = .returned (.tuple #[.slice none 0 0, .slice none 0 0, .int .i64 (bareE n l)]) ∧ Below W.heap.size W w' := fun W hb => by
    refine (b2 W hb).mono ?_
    rintro e w' ⟨hb', ⟨_, rfl⟩ | ⟨h, _⟩⟩
    · exact ⟨rfl, hb'⟩
    · exact absurd h hne
  obtain ⟨be, hbe2⟩ : ∃ be, bareE n l = be := ⟨_, rfl⟩
  rw [hbe2] at b2 hne
  have hneq : (be != 0) = true := by simp [hne]
  obtain ⟨hE, hok, hokb, hread⟩ := seal_bare (n := n) (r := r) hw
  rw [hE] at z1
  have c1 := fun W => rcheck_any (sealC (powC 4 n) t r) W
  rw [show chS (sealC (powC 4 n) t r) = 0 by unfold chS; rw [hok]; rfl] at c1
  have hl1 : letE [sealC (powC 4 n) t r] = 0 := letE_0.2 ⟨by simp, by simp [hok]⟩
  have hbe : bareE n [sealC (powC 4 n) t r] = 0 := by unfold bareE; rw [hs, hl1]; rfl
  have hcb := bare_right (n := n) hl1
  simp only [List.map_cons, List.map_nil] at hcb
  have rd := fun W => read_any (bareS n (sealC (powC 4 n) t r)) W
  rw [hread, show chS (bareS n (sealC (powC 4 n) t r)) = 0 by unfold chS; rw [hokb]; rfl] at rd
  obtain ⟨S, hS⟩ : ∃ S, sealC (powC 4 n) t r = S := ⟨_, rfl⟩
  rw [hS] at z1 c1 hbe hcb rd
  obtain ⟨X, hX⟩ : ∃ X, powC 4 n = X := ⟨_, rfl⟩
  rw [hX] at q1 z1 hcb
  have b1 : ∀ W, Below w.heap.size w W → Calls Tryd.prog 32 #[.int .i64 n, .slice (some ⟨W.heap.size, 0, none⟩) 1 1] (W.alloc (.cells #[.int .i64 S.x.a, .int .i64 S.x.b, .int .i64 S.y.a, .int .i64 S.y.b, .int .i64 S.z.a, .int .i64 S.z.b] 55)) fun e w' => ∃ vx vp, e = .returned (.tuple #[vx, vp, .int .i64 0]) ∧ SlS w' w'.heap.size vx [bareS n S] ∧ SlP w' w'.heap.size vp [proofS n S] ∧ Below W.heap.size W w' := fun W hb => by
    have hb2 := hb.alloc hb.size (.cells #[.int .i64 S.x.a, .int .i64 S.x.b, .int .i64 S.y.a, .int .i64 S.y.b, .int .i64 S.z.a, .int .i64 S.z.b] 55)
    refine (bare_any n [S] _ 1 _ (hT.below hb2) (new_s1 W S _ rfl)).mono ?_
    rintro e w' ⟨hb', ⟨h, _⟩ | ⟨_, vx, vp, rfl, h1, h2⟩⟩
    · exact absurd hbe h
    · exact ⟨vx, vp, rfl, h1, h2, (below_alloc' W _).trans (hb'.mono (by simp))⟩
  have k1 : ∀ W (vx vp : Value), Below w.heap.size w W → SlS W W.heap.size vx [bareS n S] → SlP W W.heap.size vp [proofS n S] → Calls Tryd.prog 28 #[.int .i64 X, .slice (some ⟨W.heap.size, 0, none⟩) 1 1, vx, vp] (W.alloc (.cells #[.int .i64 S.x.a, .int .i64 S.x.b, .int .i64 S.y.a, .int .i64 S.y.b, .int .i64 S.z.a, .int .i64 S.z.b] 55)) fun e w' => e = .returned (.bool true) ∧ Below W.heap.size W w' := fun W vx vp hb hx hp => by
    have hb2 := hb.alloc hb.size (.cells #[.int .i64 S.x.a, .int .i64 S.x.b, .int .i64 S.y.a, .int .i64 S.y.b, .int .i64 S.z.a, .int .i64 S.z.b] 55)
    obtain ⟨_, A2, c2, e2, _⟩ := id hx
    obtain ⟨_, A3, c3, e3, _⟩ := id hp
    subst e2 e3
    have := checkbare_any X [S] [bareS n S] [proofS n S] (some ⟨W.heap.size, 0, none⟩) A2 A3 1 c2 c3 _ (hT.below hb2) (new_s1 W S _ rfl) ((hx.below (below_alloc' W _)).mono (by simp)) ((hp.below (below_alloc' W _)).mono (by simp))
    rw [hcb] at this
    exact this.mono fun e w' ⟨h1, h2⟩ => ⟨h1, (below_alloc' W _).trans (h2.mono (by simp))⟩
  obtain ⟨Y, hY⟩ : ∃ Y, bareS n S = Y := ⟨_, rfl⟩
  rw [hY] at rd b1 k1
  have cx1 : ∀ (W : World) (vx : Value), SlS W W.heap.size vx [Y] → ∃ b o c', vx = .slice (some ⟨b, o, none⟩) 1 c' ∧ b < W.heap.size ∧ W.cell? ⟨b, o, none⟩ = some (.int .i64 Y.x.a) ∧ W.cell? ⟨b, o + 1, none⟩ = some (.int .i64 Y.x.b) ∧ W.cell? ⟨b, o + 2, none⟩ = some (.int .i64 Y.y.a) ∧ W.cell? ⟨b, o + 3, none⟩ = some (.int .i64 Y.y.b) ∧ W.cell? ⟨b, o + 4, none⟩ = some (.int .i64 Y.z.a) ∧ W.cell? ⟨b, o + 5, none⟩ = some (.int .i64 Y.z.b) := fun W vx h => by
    obtain ⟨_, A, c', rfl, hE⟩ := h
    obtain ⟨b, o, rfl, hb, hE⟩ := hE Nat.zero_lt_one
    exact ⟨b, o, c', rfl, hb, hE 0 Nat.zero_lt_one 0 (by omega), hE 0 Nat.zero_lt_one 1 (by omega), hE 0 Nat.zero_lt_one 2 (by omega), hE 0 Nat.zero_lt_one 3 (by omega), hE 0 Nat.zero_lt_one 4 (by omega), hE 0 Nat.zero_lt_one 5 (by omega)⟩
  have bq := fun w => runT t t w
  rw [eqTr_self] at bq
  unfold Se.val at z1 c1 rd
  unfold Tr.val at z1 rd
  unfold Tr.val at bq
  unfold Tr.val
  generalize t.p = tp at *
  generalize t.q = tq at *
  generalize t.r = tr at *
  generalize r.p = rp at *
  generalize r.q = rq at *
  generalize r.r = rr at *
  generalize S.x.a = xa at *
  generalize S.x.b = xb at *
  generalize S.y.a = ya at *
  generalize S.y.b = yb at *
  generalize S.z.a = za at *
  generalize S.z.b = zb at *
  have SN := Lib.hid sn
  have F1 := Lib.hid f1
  have Q1 := Lib.hid q1
  have Z1 := Lib.hid z1
  have B2 := Lib.hid b2
  have C1 := Lib.hid c1
  have B1 := Lib.hid b1
  have K1 := Lib.hid k1
  have RD := Lib.hid rd
  have CX := Lib.hid cx1
  clear sn f1 q1 z1 b2 c1 b1 k1 rd cx1 hT hl hf hs hbe2 hne hE hok hokb hread hl1 hbe hcb hS hX hY hw
  obtain ⟨W, hW, hB, r6, r7⟩ := made2b w [.int .i64 tp, .int .i64 tq, .int .i64 tr] [.int .i64 rp, .int .i64 rq, .int .i64 rr] 50 49
  go_enter Tryd.func9, Tryd.ntmps9
  go_upto_region 1 with fail
  clear hW
  go_upto_region 8 with (first
    | (go_at_call 18; (with_reducible refine (SN.out _ hB).mono ?_); rintro e w1 ⟨rfl, hb⟩; replace r6 := r6.below hb r6.lt; replace r7 := r7.below hb r7.lt; replace hB := hB.trans (hb.mono hB.size); clear hb)
    | (go_at_call 29; (with_reducible refine (F1.out _).mono ?_); rintro e w2 ⟨rfl, rfl⟩)
    | (go_at_call 26; (with_reducible refine (Q1.out _).mono ?_); rintro e w3 ⟨rfl, hb⟩; replace r6 := r6.below hb r6.lt; replace r7 := r7.below hb r7.lt; replace hB := hB.trans (hb.mono hB.size); clear hb))
  obtain ⟨t0, t1, t2⟩ := st3' r6
  obtain ⟨u0, u1, u2⟩ := st3' r7
  go_upto_region 9 with (go_at_call 30; (with_reducible refine (Z1.out _).mono ?_); rintro e w4 ⟨rfl, hb⟩; replace r6 := r6.below hb r6.lt; replace hB := hB.trans (hb.mono hB.size); clear hb)
  clear t0 t1 t2 u0 u1 u2 r7
  have rs := Row.new w4 55 [.int .i64 xa, .int .i64 xb, .int .i64 ya, .int .i64 yb, .int .i64 za, .int .i64 zb]
  replace hB := hB.alloc hB.size (.cells #[.int .i64 xa, .int .i64 xb, .int .i64 ya, .int .i64 yb, .int .i64 za, .int .i64 zb] 55)
  replace r6 := r6.alloc (.cells #[.int .i64 xa, .int .i64 xb, .int .i64 ya, .int .i64 yb, .int .i64 za, .int .i64 zb] 55)
  obtain ⟨W4, hW4⟩ : ∃ W, w4.alloc (.cells #[.int .i64 xa, .int .i64 xb, .int .i64 ya, .int .i64 yb, .int .i64 za, .int .i64 zb] 55) = W := ⟨_, rfl⟩
  replace rs : Row W4 w4.heap.size 55 [.int .i64 xa, .int .i64 xb, .int .i64 ya, .int .i64 yb, .int .i64 za, .int .i64 zb] := hW4 ▸ rs
  rw [hW4] at hB r6 ⊢
  clear hW4
  generalize w4.heap.size = g4 at *
  obtain ⟨x0, x1, x2, x3, x4, x5⟩ := st6' rs
  go_upto_region 11 with (first
    | (go_at_call 31; (with_reducible refine (C1.out _).mono ?_); rintro e w5 ⟨rfl, hb⟩; replace r6 := r6.below hb r6.lt; replace rs := rs.below hb rs.lt; replace hB := hB.trans (hb.mono hB.size); clear hb x0 x1 x2 x3 x4 x5; obtain ⟨x0, x1, x2, x3, x4, x5⟩ := st6' rs)
    | (go_at_call 32; (with_reducible refine (B1.out _ hB).mono ?_); rintro e w6 ⟨vx, vp, rfl, hX1, hP1, hb⟩; replace r6 := r6.below hb r6.lt; replace rs := rs.below hb rs.lt; replace hB := hB.trans (hb.mono hB.size); clear hb x0 x1 x2 x3 x4 x5; obtain ⟨x0, x1, x2, x3, x4, x5⟩ := st6' rs))
  obtain ⟨vb, vo, vc, rfl, hvb, v0, v1, v2, v3, v4, v5⟩ := CX.out _ _ hX1
  have HX1 := Lib.hid hX1
  have HP1 := Lib.hid hP1
  clear hX1 hP1
  go_upto_region 13 with (go_at_call 28; (with_reducible refine (K1.out _ _ _ hB HX1.out HP1.out).mono ?_); rintro e w7 ⟨rfl, hb⟩; replace r6 := r6.below hb r6.lt; have hX2 := (HX1.out.below hb).mono hb.size; replace hB := hB.trans (hb.mono hB.size); clear hb x0 x1 x2 x3 x4 x5 v0 v1 v2 v3 v4 v5 hvb)
  obtain ⟨vb2, vo2, vc2, e2, hvb, v0, v1, v2, v3, v4, v5⟩ := CX.out _ _ hX2
  injection e2 with e2 _ e3
  injection e2 with e2
  injection e2 with e2 e4 _
  subst e2 e3 e4
  clear hX2
  go_upto_region 14 with (go_at_call 33; (with_reducible refine (RD.out _).mono ?_); rintro e w8 ⟨rfl, hb⟩; replace r6 := r6.below hb r6.lt; replace hB := hB.trans (hb.mono hB.size); clear hb v0 v1 v2 v3 v4 v5)
  have rw16 := Row.new w8 50 [.int .i64 tp, .int .i64 tq, .int .i64 tr]
  replace hB := hB.alloc hB.size (.cells #[.int .i64 tp, .int .i64 tq, .int .i64 tr] 50)
  replace r6 := r6.alloc (.cells #[.int .i64 tp, .int .i64 tq, .int .i64 tr] 50)
  obtain ⟨t0, t1, t2⟩ := st3' r6
  obtain ⟨W8, hW8⟩ : ∃ W, w8.alloc (.cells #[.int .i64 tp, .int .i64 tq, .int .i64 tr] 50) = W := ⟨_, rfl⟩
  replace rw16 : Row W8 w8.heap.size 50 [.int .i64 tp, .int .i64 tq, .int .i64 tr] := hW8 ▸ rw16
  rw [hW8] at hB t0 t1 t2 ⊢
  clear hW8 r6
  generalize w8.heap.size = g8 at *
  obtain ⟨u0, u1, u2⟩ := st3' rw16
  go_upto_region 16 with fail
  clear t0 t1 t2 u0 u1 u2 rw16 HX1 HP1 rs
  go_wp2_with (go_at_call 32; (with_reducible refine (B2.out _ hB).mono ?_); rintro e w9 ⟨rfl, hb⟩; replace hB := hB.trans (hb.mono hB.size); clear hb)
  go_ret
  exact ⟨rfl, hB⟩
set_option maxRecDepth 100000 in
set_option maxHeartbeats 8000000 in
theorem ebare_no (n : Int) (l : List Se) (A : Option Addr) (c : Nat) (t r : Tr) (w : World) (hT : TabOK w) (hl : SlS w w.heap.size (.slice A l.length c) l) (hf : l.length ≤ 6 ∨ (64 < l.length ∧ l.length ≤ 80)) (hs : secB n = true) (hw : wOK t = false) (h0 : bareE n l = 0) :
    Calls Tryd.prog 9 #[.int .i64 n, .slice A l.length c, t.val, r.val] w fun e w' => e = .returned (.bool true) ∧ Below w.heap.size w w' := by
  have sn := fun W (hb : Below w.heap.size w W) => sane12 W (hT.below hb)
  have f1 := fun W => few_any A l.length c W
  have q1 := fun W => public_any n W
  rw [show (decide (l.length ≤ 6) || (decide (64 < l.length) && decide (l.length ≤ 80))) = true by simpa using hf] at f1
  rw [pubE_0 hs, show pubC n = powC 4 n by unfold pubC; rw [if_pos hs]] at q1
  have z1 := fun W => seal_any (powC 4 n) t r W
  have b2 := fun W (hb : Below w.heap.size w W) => bare_any n l A c W (hT.below hb) ((hl.below hb).mono hb.size)
  have h3 : letE l = 0 := by unfold bareE at h0; rwa [hs, if_pos rfl] at h0
  replace b2 : ∀ W, Below w.heap.size w W → Calls Tryd.prog 32 #[.int .i64 n, .slice A l.length c] W fun e w' => ∃ vx vp, e = .returned (.tuple #[vx, vp, .int .i64 0]) ∧ SlS w' w'.heap.size vx (l.map (bareS n)) ∧ SlP w' w'.heap.size vp (l.map (proofS n)) ∧ Below W.heap.size W w' := fun W hb => by
    refine (b2 W hb).mono ?_
    rintro e w' ⟨hb', ⟨h, _⟩ | ⟨_, vx, vp, rfl, h1, h2⟩⟩
    · exact absurd h0 h
    · exact ⟨vx, vp, rfl, h1, h2, hb'⟩
  have k2 : ∀ W (vx vp : Value), Below w.heap.size w W → SlS W W.heap.size vx (l.map (bareS n)) → SlP W W.heap.size vp (l.map (proofS n)) → Calls Tryd.prog 28 #[.int .i64 (powC 4 n), .slice A l.length c, vx, vp] W fun e w' => e = .returned (.bool true) ∧ Below W.heap.size W w' := fun W vx vp hb hx hp => by
    obtain ⟨_, A2, c2, e2, _⟩ := id hx
    obtain ⟨_, A3, c3, e3, _⟩ := id hp
    subst e2 e3
    have := checkbare_any (powC 4 n) l (l.map (bareS n)) (l.map (proofS n)) A A2 A3 c c2 c3 W (hT.below hb) ((hl.below hb).mono hb.size) hx hp
    rwa [bare_right h3] at this
  have len : ∀ (W : World) (vx : Value), SlS W W.heap.size vx (l.map (bareS n)) → ∃ A2 c2, vx = .slice A2 l.length c2 := fun W vx h => by
    obtain ⟨_, A2, c2, e2, _⟩ := h
    rw [List.length_map] at e2
    exact ⟨A2, c2, e2⟩
  have hl2 := fun W (hb : Below w.heap.size w W) => (hl.below hb).mono hb.size
  have oks : ∀ i, i < l.length → okS (l.getD i default) = true := fun i hi => letE_ok hl h3 hi
  have hl80 : l.length ≤ 80 := by omega
  have HL := Lib.hid hl2
  have OKS := Lib.hid oks
  have LEN := Lib.hid len
  have HS := Lib.hid hs
  clear hl2 oks len
  have hE : sealE (powC 4 n) t ≠ 0 := by unfold sealE; rw [vld_powC vld_4 n, hw]; decide
  obtain ⟨X, hX⟩ : ∃ X, powC 4 n = X := ⟨_, rfl⟩
  rw [hX] at q1 z1 k2 hE
  obtain ⟨ze, hze⟩ : ∃ ze, sealE X t = ze := ⟨_, rfl⟩
  rw [hze] at z1 hE
  have hzq : (ze == 0) = false := beq_eq_false_iff_ne.2 hE
  obtain ⟨S, hS⟩ : ∃ S, sealC X t r = S := ⟨_, rfl⟩
  rw [hS] at z1
  unfold Se.val Tr.val at z1
  unfold Tr.val
  generalize t.p = tp at *
  generalize t.q = tq at *
  generalize t.r = tr at *
  generalize r.p = rp at *
  generalize r.q = rq at *
  generalize r.r = rr at *
  generalize S.x.a = xa at *
  generalize S.x.b = xb at *
  generalize S.y.a = ya at *
  generalize S.y.b = yb at *
  generalize S.z.a = za at *
  generalize S.z.b = zb at *
  have SN := Lib.hid sn
  have F1 := Lib.hid f1
  have Q1 := Lib.hid q1
  have Z1 := Lib.hid z1
  have B2 := Lib.hid b2
  have K2 := Lib.hid k2
  clear sn f1 q1 z1 b2 k2 hT hl hf hs h0 h3 hE hX hze hS hw
  obtain ⟨W, hW, hB, r6, r7⟩ := made2b w [.int .i64 tp, .int .i64 tq, .int .i64 tr] [.int .i64 rp, .int .i64 rq, .int .i64 rr] 50 49
  go_enter Tryd.func9, Tryd.ntmps9
  go_upto_region 1 with fail
  clear hW
  go_upto_region 8 with (first
    | (go_at_call 18; (with_reducible refine (SN.out _ hB).mono ?_); rintro e w1 ⟨rfl, hb⟩; replace r6 := r6.below hb r6.lt; replace r7 := r7.below hb r7.lt; replace hB := hB.trans (hb.mono hB.size); clear hb)
    | (go_at_call 29; (with_reducible refine (F1.out _).mono ?_); rintro e w2 ⟨rfl, rfl⟩)
    | (go_at_call 26; (with_reducible refine (Q1.out _).mono ?_); rintro e w3 ⟨rfl, hb⟩; replace r6 := r6.below hb r6.lt; replace r7 := r7.below hb r7.lt; replace hB := hB.trans (hb.mono hB.size); clear hb))
  obtain ⟨t0, t1, t2⟩ := st3' r6
  obtain ⟨u0, u1, u2⟩ := st3' r7
  go_upto_region 9 with (go_at_call 30; (with_reducible refine (Z1.out _).mono ?_); rintro e w4 ⟨rfl, hb⟩; replace r6 := r6.below hb r6.lt; replace hB := hB.trans (hb.mono hB.size); clear hb)
  clear t0 t1 t2 u0 u1 u2 r7
  have rs := Row.new w4 55 [.int .i64 xa, .int .i64 xb, .int .i64 ya, .int .i64 yb, .int .i64 za, .int .i64 zb]
  replace hB := hB.alloc hB.size (.cells #[.int .i64 xa, .int .i64 xb, .int .i64 ya, .int .i64 yb, .int .i64 za, .int .i64 zb] 55)
  replace r6 := r6.alloc (.cells #[.int .i64 xa, .int .i64 xb, .int .i64 ya, .int .i64 yb, .int .i64 za, .int .i64 zb] 55)
  obtain ⟨W4, hW4⟩ : ∃ W, w4.alloc (.cells #[.int .i64 xa, .int .i64 xb, .int .i64 ya, .int .i64 yb, .int .i64 za, .int .i64 zb] 55) = W := ⟨_, rfl⟩
  replace rs : Row W4 w4.heap.size 55 [.int .i64 xa, .int .i64 xb, .int .i64 ya, .int .i64 yb, .int .i64 za, .int .i64 zb] := hW4 ▸ rs
  rw [hW4] at hB r6 ⊢
  clear hW4
  generalize w4.heap.size = g4 at *
  clear r6 rs
  go_upto_region 16 with fail
  go_upto_region 19 with (go_at_call 32; (with_reducible refine (B2.out _ hB).mono ?_); rintro e w9 ⟨vy, vq, rfl, hY2, hQ2, hb⟩; replace hB := hB.trans (hb.mono hB.size); clear hb; obtain ⟨A2, c2, rfl⟩ := LEN.out _ _ hY2)
  have HY2 := Lib.hid hY2
  have HQ2 := Lib.hid hQ2
  clear hY2 hQ2
  go_upto_region 21 with (go_at_call 28; (with_reducible refine (K2.out _ _ _ hB HY2.out HQ2.out).mono ?_); rintro e wa ⟨rfl, hb⟩; have hY3 := (HY2.out.below hb).mono hb.size; replace hB := hB.trans (hb.mono hB.size); clear hb HY2 HQ2)
  go_wp2_with fail
  have HY := Lib.hid hY3
  clear hY3
  have hBA := Below.refl wa.heap.size wa
  go_loopg [121] l.length (fun g iv wr => ∃ k : Nat, iv = .int .i64 k ∧ k + g = l.length ∧ Below wa.heap.size wa wr)
  case atStart => exact ⟨0, rfl, by omega, hBA⟩
  case round =>
    obtain ⟨k, rfl, hkg, hBr⟩ := hrel
    by_cases hlt : k < l.length
    · obtain ⟨b1, o1, d1, e1, hb1, h10, h11, h12, h13, h14, h15⟩ := SlS.get (HL.out wr (hB.trans (hBr.mono hB.size))) hlt
      injection e1 with e1 _ e1c
      subst e1 e1c
      have hlm : k < (l.map (bareS n)).length := by rw [List.length_map]; exact hlt
      obtain ⟨b2, o2, d2, e2, hb2, h20, h21, h22, h23, h24, h25⟩ := SlS.get (HY.out.below hBr) hlm
      rw [map_getD _ hlt] at h20 h21 h22 h23 h24 h25
      rw [List.length_map] at e2
      injection e2 with e2 _ e2c
      subst e2 e2c
      obtain ⟨z, hz⟩ : ∃ z, l.getD k default = z := ⟨_, rfl⟩
      have hokz := OKS.out k hlt
      rw [hz] at h10 h11 h12 h13 h14 h15 h20 h21 h22 h23 h24 h25 hokz
      obtain ⟨hse, hsE⟩ := strp_bare HS.out hokz
      have p1 := fun W => strp_any n z W
      rw [hse, hsE] at p1
      obtain ⟨Z, hZ⟩ : ∃ Z, bareS n z = Z := ⟨_, rfl⟩
      rw [hZ] at p1 h20 h21 h22 h23 h24 h25
      have bs := fun w => runS Z Z w
      rw [eqSe_self] at bs
      unfold Se.val at p1 bs
      generalize z.x.a = za1 at *
      generalize z.x.b = zb1 at *
      generalize z.y.a = za2 at *
      generalize z.y.b = zb2 at *
      generalize z.z.a = za3 at *
      generalize z.z.b = zb3 at *
      generalize Z.x.a = ya1 at *
      generalize Z.x.b = yb1 at *
      generalize Z.y.a = ya2 at *
      generalize Z.y.b = yb2 at *
      generalize Z.z.a = ya3 at *
      generalize Z.z.b = yb3 at *
      have P1 := Lib.hid p1
      have s1 : (0 : Int) ≤ k := by omega
      have s2 : (k : Int) < l.length := by omega
      have hb2w : b2 < wr.heap.size := by have := hBr.size; omega
      have hbv : ∀ W, Below wr.heap.size wr W → W.cell? ⟨b2, o2 + k * 6, none⟩ = some (.int .i64 ya1) ∧ W.cell? ⟨b2, o2 + k * 6 + 1, none⟩ = some (.int .i64 yb1) ∧ W.cell? ⟨b2, o2 + k * 6 + 2, none⟩ = some (.int .i64 ya2) ∧ W.cell? ⟨b2, o2 + k * 6 + 3, none⟩ = some (.int .i64 yb2) ∧ W.cell? ⟨b2, o2 + k * 6 + 4, none⟩ = some (.int .i64 ya3) ∧ W.cell? ⟨b2, o2 + k * 6 + 5, none⟩ = some (.int .i64 yb3) := fun W h =>
        ⟨(h.cell (p := ⟨b2, _, none⟩) hb2w).trans h20, (h.cell (p := ⟨b2, _, none⟩) hb2w).trans h21, (h.cell (p := ⟨b2, _, none⟩) hb2w).trans h22, (h.cell (p := ⟨b2, _, none⟩) hb2w).trans h23, (h.cell (p := ⟨b2, _, none⟩) hb2w).trans h24, (h.cell (p := ⟨b2, _, none⟩) hb2w).trans h25⟩
      have HBV := Lib.hid hbv
      clear hbv hse hsE p1 hz hZ hokz h20 h21 h22 h23 h24 h25 hb1 hb2 hlm HY
      go_upto_region 24 with fail
      have rz := Row.new wr 55 [.int .i64 za1, .int .i64 zb1, .int .i64 za2, .int .i64 zb2, .int .i64 za3, .int .i64 zb3]
      have hD := below_alloc' wr (.cells #[.int .i64 za1, .int .i64 zb1, .int .i64 za2, .int .i64 zb2, .int .i64 za3, .int .i64 zb3] 55)
      obtain ⟨W1, hW1⟩ : ∃ W, wr.alloc (.cells #[.int .i64 za1, .int .i64 zb1, .int .i64 za2, .int .i64 zb2, .int .i64 za3, .int .i64 zb3] 55) = W := ⟨_, rfl⟩
      replace rz : Row W1 wr.heap.size 55 [.int .i64 za1, .int .i64 zb1, .int .i64 za2, .int .i64 zb2, .int .i64 za3, .int .i64 zb3] := hW1 ▸ rz
      rw [hW1] at hD ⊢
      clear hW1 h10 h11 h12 h13 h14 h15
      obtain ⟨x0, x1, x2, x3, x4, x5⟩ := st6' rz
      go_upto_region 25 with (go_at_call 34; (with_reducible refine (P1.out _).mono ?_); rintro e w5 ⟨rfl, hb⟩; replace hD := hD.trans (hb.mono hD.size); clear hb)
      clear x0 x1 x2 x3 x4 x5 rz
      have ry := Row.new w5 55 [.int .i64 ya1, .int .i64 yb1, .int .i64 ya2, .int .i64 yb2, .int .i64 ya3, .int .i64 yb3]
      replace hD := hD.alloc hD.size (.cells #[.int .i64 ya1, .int .i64 yb1, .int .i64 ya2, .int .i64 yb2, .int .i64 ya3, .int .i64 yb3] 55)
      obtain ⟨W5, hW5⟩ : ∃ W, w5.alloc (.cells #[.int .i64 ya1, .int .i64 yb1, .int .i64 ya2, .int .i64 yb2, .int .i64 ya3, .int .i64 yb3] 55) = W := ⟨_, rfl⟩
      replace ry : Row W5 w5.heap.size 55 [.int .i64 ya1, .int .i64 yb1, .int .i64 ya2, .int .i64 yb2, .int .i64 ya3, .int .i64 yb3] := hW5 ▸ ry
      rw [hW5] at hD ⊢
      clear hW5
      generalize w5.heap.size = g5 at *
      have hsS : ∀ W', Below W5.heap.size W5 W' → (W'.cell? ⟨g5, 0, none⟩ = some (.int .i64 ya1) ∧ W'.cell? ⟨g5, 1, none⟩ = some (.int .i64 yb1) ∧ W'.cell? ⟨g5, 2, none⟩ = some (.int .i64 ya2) ∧ W'.cell? ⟨g5, 3, none⟩ = some (.int .i64 yb2) ∧ W'.cell? ⟨g5, 4, none⟩ = some (.int .i64 ya3) ∧ W'.cell? ⟨g5, 5, none⟩ = some (.int .i64 yb3)) ∧ (W'.cell? ⟨b2, o2 + k * 6, none⟩ = some (.int .i64 ya1) ∧ W'.cell? ⟨b2, o2 + k * 6 + 1, none⟩ = some (.int .i64 yb1) ∧ W'.cell? ⟨b2, o2 + k * 6 + 2, none⟩ = some (.int .i64 ya2) ∧ W'.cell? ⟨b2, o2 + k * 6 + 3, none⟩ = some (.int .i64 yb2) ∧ W'.cell? ⟨b2, o2 + k * 6 + 4, none⟩ = some (.int .i64 ya3) ∧ W'.cell? ⟨b2, o2 + k * 6 + 5, none⟩ = some (.int .i64 yb3)) := fun W' h =>
        ⟨st6' (ry.below h ry.lt), HBV.out _ (hD.trans (h.mono hD.size))⟩
      refine wp_region_ord 9 [(1, 0), (1, 1), (1, 2), (1, 3), (1, 4), (1, 5), (1, 6), (1, 7), (2, 8)] (fun W' => (W'.cell? ⟨g5, 0, none⟩ = some (.int .i64 ya1) ∧ W'.cell? ⟨g5, 1, none⟩ = some (.int .i64 yb1) ∧ W'.cell? ⟨g5, 2, none⟩ = some (.int .i64 ya2) ∧ W'.cell? ⟨g5, 3, none⟩ = some (.int .i64 yb2) ∧ W'.cell? ⟨g5, 4, none⟩ = some (.int .i64 ya3) ∧ W'.cell? ⟨g5, 5, none⟩ = some (.int .i64 yb3)) ∧ (W'.cell? ⟨b2, o2 + k * 6, none⟩ = some (.int .i64 ya1) ∧ W'.cell? ⟨b2, o2 + k * 6 + 1, none⟩ = some (.int .i64 yb1) ∧ W'.cell? ⟨b2, o2 + k * 6 + 2, none⟩ = some (.int .i64 ya2) ∧ W'.cell? ⟨b2, o2 + k * 6 + 3, none⟩ = some (.int .i64 yb2) ∧ W'.cell? ⟨b2, o2 + k * 6 + 4, none⟩ = some (.int .i64 ya3) ∧ W'.cell? ⟨b2, o2 + k * 6 + 5, none⟩ = some (.int .i64 yb3))) (by kernel_rfl) (by kernel_rfl) (fun _ _ d _ _ h => by cases d <;> exact h) (hsS _ (Below.refl _ _).drew) ?_
      have hD2 := hD.trans ((Below.refl W5.heap.size W5).drew.mono hD.size)
      have hSS := hsS _ (Below.refl _ _).drew
      clear hsS ry hD HBV
      generalize W5.drew = W6 at hD2 hSS ⊢
      iterate 8
        refine wpOrd_take (v := ?_) rfl (by go_simp) (fun w hSw => ?_) ?_
        rotate_left 1
        · obtain ⟨⟨k0, k1, k2, k3, k4, k5⟩, k6, k7, k8, k9, k10, k11⟩ := hSw
          go_simp
          with_reducible rfl
        simp only [Act.put, List.setIfInBounds_toArray, List.set_cons_zero, List.set_cons_succ]
      refine wpOrd_step rfl (fun K hK => ⟨by go_simp, ?_⟩)
      go_simp
      refine hK _ _ hSS ?_
      clear hK K
      try simp only [Act.put, List.setIfInBounds_toArray, List.set_cons_zero, List.set_cons_succ]
      refine wpOrd_nil ?_
      simp only [List.drop_succ_cons, List.drop_zero]
      clear hSS
      go_wp2_with fail
      go_roundg (gk - 1)
      case measure => omega
      case rel => exact ⟨k + 1, by first | rfl | go_num, by omega, hBr.trans (hD2.mono hBr.size)⟩
    · obtain rfl : k = l.length := by omega
      go_wp2_with fail
      go_ret
      exact ⟨rfl, hB.trans (hBr.mono hB.size)⟩
set_option maxRecDepth 100000 in
set_option maxHeartbeats 8000000 in
theorem ebare_yo (n : Int) (l : List Se) (A : Option Addr) (c : Nat) (t r : Tr) (w : World) (hT : TabOK w) (hl : SlS w w.heap.size (.slice A l.length c) l) (hf : l.length ≤ 6 ∨ (64 < l.length ∧ l.length ≤ 80)) (hs : secB n = true) (hw : wOK t = true) (h0 : bareE n l = 0) :
    Calls Tryd.prog 9 #[.int .i64 n, .slice A l.length c, t.val, r.val] w fun e w' => e = .returned (.bool true) ∧ Below w.heap.size w w' := by
  have sn := fun W (hb : Below w.heap.size w W) => sane12 W (hT.below hb)
  have f1 := fun W => few_any A l.length c W
  have q1 := fun W => public_any n W
  rw [show (decide (l.length ≤ 6) || (decide (64 < l.length) && decide (l.length ≤ 80))) = true by simpa using hf] at f1
  rw [pubE_0 hs, show pubC n = powC 4 n by unfold pubC; rw [if_pos hs]] at q1
  have z1 := fun W => seal_any (powC 4 n) t r W
  have b2 := fun W (hb : Below w.heap.size w W) => bare_any n l A c W (hT.below hb) ((hl.below hb).mono hb.size)
  have h3 : letE l = 0 := by unfold bareE at h0; rwa [hs, if_pos rfl] at h0
  replace b2 : ∀ W, Below w.heap.size w W → Calls Tryd.prog 32 #[.int .i64 n, .slice A l.length c] W fun e w' => ∃ vx vp, e = .returned (.tuple #[vx, vp, .int .i64 0]) ∧ SlS w' w'.heap.size vx (l.map (bareS n)) ∧ SlP w' w'.heap.size vp (l.map (proofS n)) ∧ Below W.heap.size W w' := fun W hb => by
    refine (b2 W hb).mono ?_
    rintro e w' ⟨hb', ⟨h, _⟩ | ⟨_, vx, vp, rfl, h1, h2⟩⟩
    · exact absurd h0 h
    · exact ⟨vx, vp, rfl, h1, h2, hb'⟩
  have k2 : ∀ W (vx vp : Value), Below w.heap.size w W → SlS W W.heap.size vx (l.map (bareS n)) → SlP W W.heap.size vp (l.map (proofS n)) → Calls Tryd.prog 28 #[.int .i64 (powC 4 n), .slice A l.length c, vx, vp] W fun e w' => e = .returned (.bool true) ∧ Below W.heap.size W w' := fun W vx vp hb hx hp => by
    obtain ⟨_, A2, c2, e2, _⟩ := id hx
    obtain ⟨_, A3, c3, e3, _⟩ := id hp
    subst e2 e3
    have := checkbare_any (powC 4 n) l (l.map (bareS n)) (l.map (proofS n)) A A2 A3 c c2 c3 W (hT.below hb) ((hl.below hb).mono hb.size) hx hp
    rwa [bare_right h3] at this
  have len : ∀ (W : World) (vx : Value), SlS W W.heap.size vx (l.map (bareS n)) → ∃ A2 c2, vx = .slice A2 l.length c2 := fun W vx h => by
    obtain ⟨_, A2, c2, e2, _⟩ := h
    rw [List.length_map] at e2
    exact ⟨A2, c2, e2⟩
  have hl2 := fun W (hb : Below w.heap.size w W) => (hl.below hb).mono hb.size
  have oks : ∀ i, i < l.length → okS (l.getD i default) = true := fun i hi => letE_ok hl h3 hi
  have hl80 : l.length ≤ 80 := by omega
  have HL := Lib.hid hl2
  have OKS := Lib.hid oks
  have LEN := Lib.hid len
  have HS := Lib.hid hs
  clear hl2 oks len
  obtain ⟨hE, hok, hokb, hread⟩ := seal_bare (n := n) (r := r) hw
  rw [hE] at z1
  have c1 := fun W => rcheck_any (sealC (powC 4 n) t r) W
  rw [show chS (sealC (powC 4 n) t r) = 0 by unfold chS; rw [hok]; rfl] at c1
  have hl1 : letE [sealC (powC 4 n) t r] = 0 := letE_0.2 ⟨by simp, by simp [hok]⟩
  have hbe : bareE n [sealC (powC 4 n) t r] = 0 := by unfold bareE; rw [hs, hl1]; rfl
  have hcb := bare_right (n := n) hl1
  simp only [List.map_cons, List.map_nil] at hcb
  have rd := fun W => read_any (bareS n (sealC (powC 4 n) t r)) W
  rw [hread, show chS (bareS n (sealC (powC 4 n) t r)) = 0 by unfold chS; rw [hokb]; rfl] at rd
  obtain ⟨S, hS⟩ : ∃ S, sealC (powC 4 n) t r = S := ⟨_, rfl⟩
  rw [hS] at z1 c1 hbe hcb rd
  obtain ⟨X, hX⟩ : ∃ X, powC 4 n = X := ⟨_, rfl⟩
  rw [hX] at q1 z1 k2 hcb
  have b1 : ∀ W, Below w.heap.size w W → Calls Tryd.prog 32 #[.int .i64 n, .slice (some ⟨W.heap.size, 0, none⟩) 1 1] (W.alloc (.cells #[.int .i64 S.x.a, .int .i64 S.x.b, .int .i64 S.y.a, .int .i64 S.y.b, .int .i64 S.z.a, .int .i64 S.z.b] 55)) fun e w' => ∃ vx vp, e = .returned (.tuple #[vx, vp, .int .i64 0]) ∧ SlS w' w'.heap.size vx [bareS n S] ∧ SlP w' w'.heap.size vp [proofS n S] ∧ Below W.heap.size W w' := fun W hb => by
    have hb2 := hb.alloc hb.size (.cells #[.int .i64 S.x.a, .int .i64 S.x.b, .int .i64 S.y.a, .int .i64 S.y.b, .int .i64 S.z.a, .int .i64 S.z.b] 55)
    refine (bare_any n [S] _ 1 _ (hT.below hb2) (new_s1 W S _ rfl)).mono ?_
    rintro e w' ⟨hb', ⟨h, _⟩ | ⟨_, vx, vp, rfl, h1, h2⟩⟩
    · exact absurd hbe h
    · exact ⟨vx, vp, rfl, h1, h2, (below_alloc' W _).trans (hb'.mono (by simp))⟩
  have k1 : ∀ W (vx vp : Value), Below w.heap.size w W → SlS W W.heap.size vx [bareS n S] → SlP W W.heap.size vp [proofS n S] → Calls Tryd.prog 28 #[.int .i64 X, .slice (some ⟨W.heap.size, 0, none⟩) 1 1, vx, vp] (W.alloc (.cells #[.int .i64 S.x.a, .int .i64 S.x.b, .int .i64 S.y.a, .int .i64 S.y.b, .int .i64 S.z.a, .int .i64 S.z.b] 55)) fun e w' => e = .returned (.bool true) ∧ Below W.heap.size W w' := fun W vx vp hb hx hp => by
    have hb2 := hb.alloc hb.size (.cells #[.int .i64 S.x.a, .int .i64 S.x.b, .int .i64 S.y.a, .int .i64 S.y.b, .int .i64 S.z.a, .int .i64 S.z.b] 55)
    obtain ⟨_, A2, c2, e2, _⟩ := id hx
    obtain ⟨_, A3, c3, e3, _⟩ := id hp
    subst e2 e3
    have := checkbare_any X [S] [bareS n S] [proofS n S] (some ⟨W.heap.size, 0, none⟩) A2 A3 1 c2 c3 _ (hT.below hb2) (new_s1 W S _ rfl) ((hx.below (below_alloc' W _)).mono (by simp)) ((hp.below (below_alloc' W _)).mono (by simp))
    rw [hcb] at this
    exact this.mono fun e w' ⟨h1, h2⟩ => ⟨h1, (below_alloc' W _).trans (h2.mono (by simp))⟩
  obtain ⟨Y, hY⟩ : ∃ Y, bareS n S = Y := ⟨_, rfl⟩
  rw [hY] at rd b1 k1
  have cx1 : ∀ (W : World) (vx : Value), SlS W W.heap.size vx [Y] → ∃ b o c', vx = .slice (some ⟨b, o, none⟩) 1 c' ∧ b < W.heap.size ∧ W.cell? ⟨b, o, none⟩ = some (.int .i64 Y.x.a) ∧ W.cell? ⟨b, o + 1, none⟩ = some (.int .i64 Y.x.b) ∧ W.cell? ⟨b, o + 2, none⟩ = some (.int .i64 Y.y.a) ∧ W.cell? ⟨b, o + 3, none⟩ = some (.int .i64 Y.y.b) ∧ W.cell? ⟨b, o + 4, none⟩ = some (.int .i64 Y.z.a) ∧ W.cell? ⟨b, o + 5, none⟩ = some (.int .i64 Y.z.b) := fun W vx h => by
    obtain ⟨_, A, c', rfl, hE⟩ := h
    obtain ⟨b, o, rfl, hb, hE⟩ := hE Nat.zero_lt_one
    exact ⟨b, o, c', rfl, hb, hE 0 Nat.zero_lt_one 0 (by omega), hE 0 Nat.zero_lt_one 1 (by omega), hE 0 Nat.zero_lt_one 2 (by omega), hE 0 Nat.zero_lt_one 3 (by omega), hE 0 Nat.zero_lt_one 4 (by omega), hE 0 Nat.zero_lt_one 5 (by omega)⟩
  have bq := fun w => runT t t w
  rw [eqTr_self] at bq
  unfold Se.val at z1 c1 rd
  unfold Tr.val at z1 rd
  unfold Tr.val at bq
  unfold Tr.val
  generalize t.p = tp at *
  generalize t.q = tq at *
  generalize t.r = tr at *
  generalize r.p = rp at *
  generalize r.q = rq at *
  generalize r.r = rr at *
  generalize S.x.a = xa at *
  generalize S.x.b = xb at *
  generalize S.y.a = ya at *
  generalize S.y.b = yb at *
  generalize S.z.a = za at *
  generalize S.z.b = zb at *
  have SN := Lib.hid sn
  have F1 := Lib.hid f1
  have Q1 := Lib.hid q1
  have Z1 := Lib.hid z1
  have B2 := Lib.hid b2
  have C1 := Lib.hid c1
  have B1 := Lib.hid b1
  have K1 := Lib.hid k1
  have RD := Lib.hid rd
  have CX := Lib.hid cx1
  have K2 := Lib.hid k2
  clear sn f1 q1 z1 b2 c1 b1 k1 rd cx1 k2 hT hl hf hs h0 h3 hE hok hokb hread hl1 hbe hcb hS hX hY hw
  obtain ⟨W, hW, hB, r6, r7⟩ := made2b w [.int .i64 tp, .int .i64 tq, .int .i64 tr] [.int .i64 rp, .int .i64 rq, .int .i64 rr] 50 49
  go_enter Tryd.func9, Tryd.ntmps9
  go_upto_region 1 with fail
  clear hW
  go_upto_region 8 with (first
    | (go_at_call 18; (with_reducible refine (SN.out _ hB).mono ?_); rintro e w1 ⟨rfl, hb⟩; replace r6 := r6.below hb r6.lt; replace r7 := r7.below hb r7.lt; replace hB := hB.trans (hb.mono hB.size); clear hb)
    | (go_at_call 29; (with_reducible refine (F1.out _).mono ?_); rintro e w2 ⟨rfl, rfl⟩)
    | (go_at_call 26; (with_reducible refine (Q1.out _).mono ?_); rintro e w3 ⟨rfl, hb⟩; replace r6 := r6.below hb r6.lt; replace r7 := r7.below hb r7.lt; replace hB := hB.trans (hb.mono hB.size); clear hb))
  obtain ⟨t0, t1, t2⟩ := st3' r6
  obtain ⟨u0, u1, u2⟩ := st3' r7
  go_upto_region 9 with (go_at_call 30; (with_reducible refine (Z1.out _).mono ?_); rintro e w4 ⟨rfl, hb⟩; replace r6 := r6.below hb r6.lt; replace hB := hB.trans (hb.mono hB.size); clear hb)
  clear t0 t1 t2 u0 u1 u2 r7
  have rs := Row.new w4 55 [.int .i64 xa, .int .i64 xb, .int .i64 ya, .int .i64 yb, .int .i64 za, .int .i64 zb]
  replace hB := hB.alloc hB.size (.cells #[.int .i64 xa, .int .i64 xb, .int .i64 ya, .int .i64 yb, .int .i64 za, .int .i64 zb] 55)
  replace r6 := r6.alloc (.cells #[.int .i64 xa, .int .i64 xb, .int .i64 ya, .int .i64 yb, .int .i64 za, .int .i64 zb] 55)
  obtain ⟨W4, hW4⟩ : ∃ W, w4.alloc (.cells #[.int .i64 xa, .int .i64 xb, .int .i64 ya, .int .i64 yb, .int .i64 za, .int .i64 zb] 55) = W := ⟨_, rfl⟩
  replace rs : Row W4 w4.heap.size 55 [.int .i64 xa, .int .i64 xb, .int .i64 ya, .int .i64 yb, .int .i64 za, .int .i64 zb] := hW4 ▸ rs
  rw [hW4] at hB r6 ⊢
  clear hW4
  generalize w4.heap.size = g4 at *
  obtain ⟨x0, x1, x2, x3, x4, x5⟩ := st6' rs
  go_upto_region 11 with (first
    | (go_at_call 31; (with_reducible refine (C1.out _).mono ?_); rintro e w5 ⟨rfl, hb⟩; replace r6 := r6.below hb r6.lt; replace rs := rs.below hb rs.lt; replace hB := hB.trans (hb.mono hB.size); clear hb x0 x1 x2 x3 x4 x5; obtain ⟨x0, x1, x2, x3, x4, x5⟩ := st6' rs)
    | (go_at_call 32; (with_reducible refine (B1.out _ hB).mono ?_); rintro e w6 ⟨vx, vp, rfl, hX1, hP1, hb⟩; replace r6 := r6.below hb r6.lt; replace rs := rs.below hb rs.lt; replace hB := hB.trans (hb.mono hB.size); clear hb x0 x1 x2 x3 x4 x5; obtain ⟨x0, x1, x2, x3, x4, x5⟩ := st6' rs))
  obtain ⟨vb, vo, vc, rfl, hvb, v0, v1, v2, v3, v4, v5⟩ := CX.out _ _ hX1
  have HX1 := Lib.hid hX1
  have HP1 := Lib.hid hP1
  clear hX1 hP1
  go_upto_region 13 with (go_at_call 28; (with_reducible refine (K1.out _ _ _ hB HX1.out HP1.out).mono ?_); rintro e w7 ⟨rfl, hb⟩; replace r6 := r6.below hb r6.lt; have hX2 := (HX1.out.below hb).mono hb.size; replace hB := hB.trans (hb.mono hB.size); clear hb x0 x1 x2 x3 x4 x5 v0 v1 v2 v3 v4 v5 hvb)
  obtain ⟨vb2, vo2, vc2, e2, hvb, v0, v1, v2, v3, v4, v5⟩ := CX.out _ _ hX2
  injection e2 with e2 _ e3
  injection e2 with e2
  injection e2 with e2 e4 _
  subst e2 e3 e4
  clear hX2
  go_upto_region 14 with (go_at_call 33; (with_reducible refine (RD.out _).mono ?_); rintro e w8 ⟨rfl, hb⟩; replace r6 := r6.below hb r6.lt; replace hB := hB.trans (hb.mono hB.size); clear hb v0 v1 v2 v3 v4 v5)
  have rw16 := Row.new w8 50 [.int .i64 tp, .int .i64 tq, .int .i64 tr]
  replace hB := hB.alloc hB.size (.cells #[.int .i64 tp, .int .i64 tq, .int .i64 tr] 50)
  replace r6 := r6.alloc (.cells #[.int .i64 tp, .int .i64 tq, .int .i64 tr] 50)
  obtain ⟨t0, t1, t2⟩ := st3' r6
  obtain ⟨W8, hW8⟩ : ∃ W, w8.alloc (.cells #[.int .i64 tp, .int .i64 tq, .int .i64 tr] 50) = W := ⟨_, rfl⟩
  replace rw16 : Row W8 w8.heap.size 50 [.int .i64 tp, .int .i64 tq, .int .i64 tr] := hW8 ▸ rw16
  rw [hW8] at hB t0 t1 t2 ⊢
  clear hW8 r6
  generalize w8.heap.size = g8 at *
  obtain ⟨u0, u1, u2⟩ := st3' rw16
  go_upto_region 16 with fail
  clear t0 t1 t2 u0 u1 u2 rw16 HX1 HP1 rs
  go_upto_region 19 with (go_at_call 32; (with_reducible refine (B2.out _ hB).mono ?_); rintro e w9 ⟨vy, vq, rfl, hY2, hQ2, hb⟩; replace hB := hB.trans (hb.mono hB.size); clear hb; obtain ⟨A2, c2, rfl⟩ := LEN.out _ _ hY2)
  have HY2 := Lib.hid hY2
  have HQ2 := Lib.hid hQ2
  clear hY2 hQ2
  go_upto_region 21 with (go_at_call 28; (with_reducible refine (K2.out _ _ _ hB HY2.out HQ2.out).mono ?_); rintro e wa ⟨rfl, hb⟩; have hY3 := (HY2.out.below hb).mono hb.size; replace hB := hB.trans (hb.mono hB.size); clear hb HY2 HQ2)
  go_wp2_with fail
  have HY := Lib.hid hY3
  clear hY3
  have hBA := Below.refl wa.heap.size wa
  go_loopg [121] l.length (fun g iv wr => ∃ k : Nat, iv = .int .i64 k ∧ k + g = l.length ∧ Below wa.heap.size wa wr)
  case atStart => exact ⟨0, rfl, by omega, hBA⟩
  case round =>
    obtain ⟨k, rfl, hkg, hBr⟩ := hrel
    by_cases hlt : k < l.length
    · obtain ⟨b1, o1, d1, e1, hb1, h10, h11, h12, h13, h14, h15⟩ := SlS.get (HL.out wr (hB.trans (hBr.mono hB.size))) hlt
      injection e1 with e1 _ e1c
      subst e1 e1c
      have hlm : k < (l.map (bareS n)).length := by rw [List.length_map]; exact hlt
      obtain ⟨b2, o2, d2, e2, hb2, h20, h21, h22, h23, h24, h25⟩ := SlS.get (HY.out.below hBr) hlm
      rw [map_getD _ hlt] at h20 h21 h22 h23 h24 h25
      rw [List.length_map] at e2
      injection e2 with e2 _ e2c
      subst e2 e2c
      obtain ⟨z, hz⟩ : ∃ z, l.getD k default = z := ⟨_, rfl⟩
      have hokz := OKS.out k hlt
      rw [hz] at h10 h11 h12 h13 h14 h15 h20 h21 h22 h23 h24 h25 hokz
      obtain ⟨hse, hsE⟩ := strp_bare HS.out hokz
      have p1 := fun W => strp_any n z W
      rw [hse, hsE] at p1
      obtain ⟨Z, hZ⟩ : ∃ Z, bareS n z = Z := ⟨_, rfl⟩
      rw [hZ] at p1 h20 h21 h22 h23 h24 h25
      have bs := fun w => runS Z Z w
      rw [eqSe_self] at bs
      unfold Se.val at p1 bs
      generalize z.x.a = za1 at *
      generalize z.x.b = zb1 at *
      generalize z.y.a = za2 at *
      generalize z.y.b = zb2 at *
      generalize z.z.a = za3 at *
      generalize z.z.b = zb3 at *
      generalize Z.x.a = ya1 at *
      generalize Z.x.b = yb1 at *
      generalize Z.y.a = ya2 at *
      generalize Z.y.b = yb2 at *
      generalize Z.z.a = ya3 at *
      generalize Z.z.b = yb3 at *
      have P1 := Lib.hid p1
      have s1 : (0 : Int) ≤ k := by omega
      have s2 : (k : Int) < l.length := by omega
      have hb2w : b2 < wr.heap.size := by have := hBr.size; omega
      have hbv : ∀ W, Below wr.heap.size wr W → W.cell? ⟨b2, o2 + k * 6, none⟩ = some (.int .i64 ya1) ∧ W.cell? ⟨b2, o2 + k * 6 + 1, none⟩ = some (.int .i64 yb1) ∧ W.cell? ⟨b2, o2 + k * 6 + 2, none⟩ = some (.int .i64 ya2) ∧ W.cell? ⟨b2, o2 + k * 6 + 3, none⟩ = some (.int .i64 yb2) ∧ W.cell? ⟨b2, o2 + k * 6 + 4, none⟩ = some (.int .i64 ya3) ∧ W.cell? ⟨b2, o2 + k * 6 + 5, none⟩ = some (.int .i64 yb3) := fun W h =>
        ⟨(h.cell (p := ⟨b2, _, none⟩) hb2w).trans h20, (h.cell (p := ⟨b2, _, none⟩) hb2w).trans h21, (h.cell (p := ⟨b2, _, none⟩) hb2w).trans h22, (h.cell (p := ⟨b2, _, none⟩) hb2w).trans h23, (h.cell (p := ⟨b2, _, none⟩) hb2w).trans h24, (h.cell (p := ⟨b2, _, none⟩) hb2w).trans h25⟩
      have HBV := Lib.hid hbv
      clear hbv hse hsE p1 hz hZ hokz h20 h21 h22 h23 h24 h25 hb1 hb2 hlm HY
      go_upto_region 24 with fail
      have rz := Row.new wr 55 [.int .i64 za1, .int .i64 zb1, .int .i64 za2, .int .i64 zb2, .int .i64 za3, .int .i64 zb3]
      have hD := below_alloc' wr (.cells #[.int .i64 za1, .int .i64 zb1, .int .i64 za2, .int .i64 zb2, .int .i64 za3, .int .i64 zb3] 55)
      obtain ⟨W1, hW1⟩ : ∃ W, wr.alloc (.cells #[.int .i64 za1, .int .i64 zb1, .int .i64 za2, .int .i64 zb2, .int .i64 za3, .int .i64 zb3] 55) = W := ⟨_, rfl⟩
      replace rz : Row W1 wr.heap.size 55 [.int .i64 za1, .int .i64 zb1, .int .i64 za2, .int .i64 zb2, .int .i64 za3, .int .i64 zb3] := hW1 ▸ rz
      rw [hW1] at hD ⊢
      clear hW1 h10 h11 h12 h13 h14 h15
      obtain ⟨x0, x1, x2, x3, x4, x5⟩ := st6' rz
      go_upto_region 25 with (go_at_call 34; (with_reducible refine (P1.out _).mono ?_); rintro e w5 ⟨rfl, hb⟩; replace hD := hD.trans (hb.mono hD.size); clear hb)
      clear x0 x1 x2 x3 x4 x5 rz
      have ry := Row.new w5 55 [.int .i64 ya1, .int .i64 yb1, .int .i64 ya2, .int .i64 yb2, .int .i64 ya3, .int .i64 yb3]
      replace hD := hD.alloc hD.size (.cells #[.int .i64 ya1, .int .i64 yb1, .int .i64 ya2, .int .i64 yb2, .int .i64 ya3, .int .i64 yb3] 55)
      obtain ⟨W5, hW5⟩ : ∃ W, w5.alloc (.cells #[.int .i64 ya1, .int .i64 yb1, .int .i64 ya2, .int .i64 yb2, .int .i64 ya3, .int .i64 yb3] 55) = W := ⟨_, rfl⟩
      replace ry : Row W5 w5.heap.size 55 [.int .i64 ya1, .int .i64 yb1, .int .i64 ya2, .int .i64 yb2, .int .i64 ya3, .int .i64 yb3] := hW5 ▸ ry
      rw [hW5] at hD ⊢
      clear hW5
      generalize w5.heap.size = g5 at *
      have hsS : ∀ W', Below W5.heap.size W5 W' → (W'.cell? ⟨g5, 0, none⟩ = some (.int .i64 ya1) ∧ W'.cell? ⟨g5, 1, none⟩ = some (.int .i64 yb1) ∧ W'.cell? ⟨g5, 2, none⟩ = some (.int .i64 ya2) ∧ W'.cell? ⟨g5, 3, none⟩ = some (.int .i64 yb2) ∧ W'.cell? ⟨g5, 4, none⟩ = some (.int .i64 ya3) ∧ W'.cell? ⟨g5, 5, none⟩ = some (.int .i64 yb3)) ∧ (W'.cell? ⟨b2, o2 + k * 6, none⟩ = some (.int .i64 ya1) ∧ W'.cell? ⟨b2, o2 + k * 6 + 1, none⟩ = some (.int .i64 yb1) ∧ W'.cell? ⟨b2, o2 + k * 6 + 2, none⟩ = some (.int .i64 ya2) ∧ W'.cell? ⟨b2, o2 + k * 6 + 3, none⟩ = some (.int .i64 yb2) ∧ W'.cell? ⟨b2, o2 + k * 6 + 4, none⟩ = some (.int .i64 ya3) ∧ W'.cell? ⟨b2, o2 + k * 6 + 5, none⟩ = some (.int .i64 yb3)) := fun W' h =>
        ⟨st6' (ry.below h ry.lt), HBV.out _ (hD.trans (h.mono hD.size))⟩
      refine wp_region_ord 9 [(1, 0), (1, 1), (1, 2), (1, 3), (1, 4), (1, 5), (1, 6), (1, 7), (2, 8)] (fun W' => (W'.cell? ⟨g5, 0, none⟩ = some (.int .i64 ya1) ∧ W'.cell? ⟨g5, 1, none⟩ = some (.int .i64 yb1) ∧ W'.cell? ⟨g5, 2, none⟩ = some (.int .i64 ya2) ∧ W'.cell? ⟨g5, 3, none⟩ = some (.int .i64 yb2) ∧ W'.cell? ⟨g5, 4, none⟩ = some (.int .i64 ya3) ∧ W'.cell? ⟨g5, 5, none⟩ = some (.int .i64 yb3)) ∧ (W'.cell? ⟨b2, o2 + k * 6, none⟩ = some (.int .i64 ya1) ∧ W'.cell? ⟨b2, o2 + k * 6 + 1, none⟩ = some (.int .i64 yb1) ∧ W'.cell? ⟨b2, o2 + k * 6 + 2, none⟩ = some (.int .i64 ya2) ∧ W'.cell? ⟨b2, o2 + k * 6 + 3, none⟩ = some (.int .i64 yb2) ∧ W'.cell? ⟨b2, o2 + k * 6 + 4, none⟩ = some (.int .i64 ya3) ∧ W'.cell? ⟨b2, o2 + k * 6 + 5, none⟩ = some (.int .i64 yb3))) (by kernel_rfl) (by kernel_rfl) (fun _ _ d _ _ h => by cases d <;> exact h) (hsS _ (Below.refl _ _).drew) ?_
      have hD2 := hD.trans ((Below.refl W5.heap.size W5).drew.mono hD.size)
      have hSS := hsS _ (Below.refl _ _).drew
      clear hsS ry hD HBV
      generalize W5.drew = W6 at hD2 hSS ⊢
      iterate 8
        refine wpOrd_take (v := ?_) rfl (by go_simp) (fun w hSw => ?_) ?_
        rotate_left 1
        · obtain ⟨⟨k0, k1, k2, k3, k4, k5⟩, k6, k7, k8, k9, k10, k11⟩ := hSw
          go_simp
          with_reducible rfl
        simp only [Act.put, List.setIfInBounds_toArray, List.set_cons_zero, List.set_cons_succ]
      refine wpOrd_step rfl (fun K hK => ⟨by go_simp, ?_⟩)
      go_simp
      refine hK _ _ hSS ?_
      clear hK K
      try simp only [Act.put, List.setIfInBounds_toArray, List.set_cons_zero, List.set_cons_succ]
      refine wpOrd_nil ?_
      simp only [List.drop_succ_cons, List.drop_zero]
      clear hSS
      go_wp2_with fail
      go_roundg (gk - 1)
      case measure => omega
      case rel => exact ⟨k + 1, by first | rfl | go_num, by omega, hBr.trans (hD2.mono hBr.size)⟩
    · obtain rfl : k = l.length := by omega
      go_wp2_with fail
      go_ret
      exact ⟨rfl, hB.trans (hBr.mono hB.size)⟩
theorem equalBare_walk (n : Int) (l : List Se) (v1 : Value) (t r : Tr) (w : World) (hT0 : Tab w) (hz0 : 1 < w.heap.size ∧ 0 < w.heap.size) (hl : SlS w w.heap.size v1 l) (_ : (Lit.int .i64 n).wf = true)
    (w1 : ∃ A c, v1 = .slice A l.length c ∧ l.length ≤ c ∧ c ≤ maxLen) (_ : wfT t) (_ : wfT r) :
    Calls Tryd.prog 9 #[.int .i64 n, v1, t.val, r.val] w fun e w' => e = .returned (.bool true) ∧ Below w.heap.size w w' := by
  obtain ⟨A, c, rfl, _, _⟩ := w1
  have hT : TabOK w := ⟨hT0, hz0⟩
  by_cases h : (l.length ≤ 6 ∨ (64 < l.length ∧ l.length ≤ 80)) ∧ secB n = true
  · obtain ⟨hf, hs⟩ := h
    by_cases h0 : bareE n l = 0
    · cases hw : wOK t with
      | true => exact ebare_yo n l A c t r w hT hl hf hs hw h0
      | false => exact ebare_no n l A c t r w hT hl hf hs hw h0
    · cases hw : wOK t with
      | true => exact ebare_ye n l A c t r w hT hl hf hs hw h0
      | false => exact ebare_ne n l A c t r w hT hl hf hs hw h0
  · exact ebare_few n l A c t r w hT h
end Go.Proofs.YtaheibbbdglcmaaDoor
