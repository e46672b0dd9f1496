import Derived.Test.YtlenfjpogmmfhaaFormed
namespace Go.Proofs.Ytlenfjpogmmfhaa
open Go.RowKit Fk

theorem quiet_left {P : Program} {f : FuncId} {args : Array Value} {w : World} {n : Nat} {v : Value}
    (h : Calls P f args (w.drewN n) fun e w' => e = .returned v ∧ w.drewN n = w') : Calls P f args (w.drewN n) fun e w'' => e = .returned v ∧ ∃ m, w'' = w.drewN m :=
  h.mono fun _ _ ⟨he, hm⟩ => ⟨he, n, hm.symm⟩
theorem recE_not {l : List Sh} (h : ¬ formedS l) : recE l = 471 ∧ recV l = 0 := by
  unfold recE recV; rw [if_neg h, if_neg h]; exact ⟨rfl, rfl⟩

set_option maxRecDepth 100000 in
set_option maxHeartbeats 2000000 in
theorem rrecover_any (l : List Sh) (v : Value) (w : World) (B0 : Nat) (hB : B0 ≤ w.heap.size) (h : SlSh w B0 v l) :
    Calls Try.prog 35 #[v] w fun e w' => e = .returned (.tuple #[.int .i64 (recV l), .int .i64 (recE l)]) ∧ Below w.heap.size w w' := by
  have hc := rformed_any l v w B0 hB h
  have HS := Lib.hid h
  obtain ⟨hlen, A, c, rfl, _⟩ := h
  by_cases hF : formedS l
  rotate_left
  · rw [formB_false hF] at hc
    have q := recE_not hF
    have HC := Lib.hid hc
    rw [q.1, q.2]
    clear hc hF q
    go_enter Try.func35, Try.ntmps35
    go_wp2_with (go_at_call 49; refine HC.out.mono ?_; rintro e w1 ⟨rfl, hb⟩)
    go_ret2
    exact ⟨rfl, hb⟩
  rw [formB_true hF] at hc
  have q := recE_ok hF
  have HC := Lib.hid hc
  rw [q.1, q.2]
  have hpos := hF.1
  have HF := Lib.hid hF
  clear hc hF q
  go_enter Try.func35, Try.ntmps35
  go_wp2_with (go_at_call 49; refine HC.out.mono ?_; rintro e w1 ⟨rfl, hB1⟩)
  go_loopg [4, 5] l.length (fun g s i wr => Below w.heap.size w wr ∧ ∃ k : Nat, i = .int .i64 k ∧ k + g = l.length ∧ s = .int .i64 (recTo l k))
  case atStart => exact ⟨hB1, 0, rfl, by omega, rfl⟩
  case round =>
    clear hB1
    obtain ⟨hBr, k, rfl, hk, rfl⟩ := hrel
    by_cases hlt : k < l.length
    · obtain ⟨_, A', c', hv, hE0⟩ := HS.out.below (hBr.mono hB)
      obtain ⟨b, off, rfl, hb, hE⟩ := hE0 (by omega)
      clear hE0
      cases hv
      have d1 := hE k hlt 0 (by omega)
      have d2 := hE k hlt 1 (by omega)
      have hrs := recTo_succ hlt
      have hok := (HF.out.2 k hlt)
      obtain ⟨x, hx⟩ : ∃ x, l.getD k default = x := ⟨_, rfl⟩
      have hokx : shOK x ∧ ∀ j, j < k → (l.getD j default).a ≠ x.a := by have := hok; unfold shAt at this; rw [hx] at this; exact this
      have HX := Lib.hid hx
      rw [hx] at d1 d2 hrs
      simp only [encSh, List.getD_cons_zero, List.getD_cons_succ, Nat.add_zero] at d1 d2
      obtain ⟨⟨x1, x2, x3, x4⟩, hne⟩ := hokx
      have hrb := recTo_bd l k
      obtain ⟨R, hR⟩ : ∃ R, recTo l k = R := ⟨_, rfl⟩
      rw [hR] at hrb hrs
      have HR := Lib.hid hrs
      rw [hR]
      clear hrs hR hx hok hE
      have HNE := Lib.hid hne
      clear hne
      obtain ⟨G, rfl⟩ : ∃ G : Nat, G = gk := ⟨_, rfl⟩
      obtain ⟨wo, rfl⟩ : ∃ wo : World, wo = wr := ⟨_, rfl⟩
      go_wp2
      go_loopg [6, 7, 8] l.length (fun g ab be i wr2 => Below wo.heap.size wo wr2 ∧ ∃ (k2 : Nat) (a' b' : Int), i = .int .i64 k2 ∧ k2 + g = l.length ∧ ab = .int .i64 a' ∧ be = .int .i64 b' ∧ RInv x l k2 a' b' ∧ 0 ≤ b' ∧ b' < 1073741789)
      case atStart => exact ⟨Below.refl _ _, 0, 1, 1, rfl, by omega, rfl, rfl, RInv.start x l, by omega, by omega⟩
      case round =>
        obtain ⟨hBi, k2, a', b', rfl, hk2, rfl, rfl, hI, hb1, hb2⟩ := hrel
        have hBw : Below w.heap.size w wr := hBr.trans (hBi.mono hBr.size)
        have hbs : b < wo.heap.size := by have := hBr.size; omega
        have D1 := ((bcellK hBi).1 b (off + k * 2) hbs).trans d1
        have D2 := ((bcellK hBi).1 b (off + k * 2 + 1) hbs).trans d2
        by_cases hlt2 : k2 < l.length
        · obtain ⟨_, A3, c3, hv, hE1⟩ := HS.out.below (hBw.mono hB)
          obtain ⟨b3, off3, e3, hb3, hE2⟩ := hE1 (by omega)
          clear hE1
          subst e3
          injection hv with e1 _ e2
          injection e1 with e1
          injection e1 with e3 e4
          subst e3 e4 e2
          have f1 := hE2 k2 hlt2 0 (by omega)
          have hok2 := (HF.out.2 k2 hlt2)
          obtain ⟨y, hy⟩ : ∃ y, l.getD k2 default = y := ⟨_, rfl⟩
          have hy2 : shOK y ∧ ∀ j, j < k2 → (l.getD j default).a ≠ y.a := by have := hok2; unfold shAt at this; rw [hy] at this; exact this
          have hsk : y.a = x.a → RInv x l (k2 + 1) a' b' := fun e => hI.skip hlt2 (by rw [hy, e])
          have hst : y.a ≠ x.a → RInv x l (k2 + 1) (timesQ a' (-y.a)) (timesQ b' (x.a - y.a)) := fun e => by
            have := hI.step hlt2 (by rw [hy]; exact e)
            rw [hy] at this
            exact this
          have hsame : k2 = k → y.a = x.a := fun e => by subst e; rw [← hy, HX.out]
          have hdiff : k2 ≠ k → y.a ≠ x.a := fun e h => by
            rcases Nat.lt_or_ge k2 k with h1 | h1
            · exact HNE.out k2 h1 (by rw [hy]; exact h)
            · exact hy2.2 k (by omega) (by rw [HX.out]; exact h.symm)
          obtain ⟨⟨y1, y2, y3, y4⟩, _⟩ := hy2
          rw [hy] at f1
          simp only [encSh, List.getD_cons_zero, Nat.add_zero] at f1
          clear hE2 hok2 hy hI
          by_cases hkk : k2 = k
          · have HI := Lib.hid (hsk (hsame hkk))
            have t1 : ((k2 : Int) != (k : Int)) = false := by rw [hkk]; simp
            clear hkk hsk hst hsame hdiff D1 D2
            go_wp2
            go_roundg (gk - 1)
            case measure => omega
            case rel => exact ⟨hBi, k2 + 1, a', b', by go_num, by omega, rfl, rfl, HI.out, hb1, hb2⟩
          · have HI := Lib.hid (hst (hdiff hkk))
            have hbd := timesQ_bd b' (x.a - y.a)
            have t1 : ((k2 : Int) != (k : Int)) = true := by rw [bne_iff_ne]; omega
            have t2 : IntKind.i64.wrap (-y.a) = -y.a := IntWalk.i64_in _ (by omega)
            have s0 : IntKind.i64.wrap (x.a - y.a) = x.a - y.a := IntWalk.i64_in _ (by omega)
            have s1 : (0 : Int) ≤ (k2 : Int) := by omega
            have s2 : ((k2 : Int)).toNat = k2 := by omega
            have s3 : (k2 : Int) < l.length := by omega
            have s4 : (0 : Int) ≤ (k : Int) := by omega
            have s5 : ((k : Int)).toNat = k := by omega
            have s6 : (k : Int) < l.length := by omega
            clear hkk hsk hst hsame hdiff
            go_wp2_with (go_at_call 50; refine (rtimes_any _ _ _).mono ?_; rintro e w1 ⟨rfl, rfl⟩)
            go_quiet ((go_at_call 50; exact quiet_left (rtimes_any _ _ _)))
            clear s0 s1 s2 s3 s4 s5 s6
            go_wp2
            go_roundg (gk - 1)
            case measure => omega
            case rel => exact ⟨by first | exact hBi | exact below_drewN hBi _, k2 + 1, _, _, by go_num, by omega, rfl, rfl, HI.out, hbd⟩
        · obtain rfl : k2 = l.length := by omega
          have hd : (R + timesQ x.v (quotQ a' b')) % 1073741789 = recTo l (k + 1) := (hI.done ⟨hb1, hb2⟩).trans HR.out.symm
          have hT := timesQ_bd x.v (quotQ a' b')
          have HD := Lib.hid hd
          clear hI hd HX HNE
          have s0 : IntKind.i64.wrap (R + timesQ x.v (quotQ a' b')) = R + timesQ x.v (quotQ a' b') := IntWalk.i64_in _ (by omega)
          have s7 : (R + timesQ x.v (quotQ a' b')).tmod 1073741789 = (R + timesQ x.v (quotQ a' b')) % 1073741789 := Int.tmod_eq_emod_of_nonneg (by omega)
          have s8 : IntKind.i64.wrap ((R + timesQ x.v (quotQ a' b')) % 1073741789) = (R + timesQ x.v (quotQ a' b')) % 1073741789 := IntWalk.i64_in _ (by omega)
          have s4 : (0 : Int) ≤ (k : Int) := by omega
          have s5 : ((k : Int)).toNat = k := by omega
          have s6 : (k : Int) < l.length := by omega
          go_wp2
          go_quiet ((first | (go_at_call 50; exact quiet_left (rtimes_any _ _ _)) | (go_at_call 51; exact quiet_left (rquot_any _ _ _))))
          clear s0 s4 s5 s6 s7 s8
          go_wp2
          go_roundg (G - 1)
          case measure => omega
          case rel => exact ⟨by first | exact hBw | exact below_drewN hBw _, k + 1, by go_num, by omega, by first | exact congrArg (Value.int .i64) HD.out | exact congrArg (Value.int .i64) HD.out.symm⟩
    · obtain rfl : k = l.length := by omega
      go_wp2
      go_ret2
      exact ⟨rfl, hBr⟩
end Go.Proofs.Ytlenfjpogmmfhaa
