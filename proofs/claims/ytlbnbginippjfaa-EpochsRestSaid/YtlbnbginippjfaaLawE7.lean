import Derived.Test.YtlbnbginippjfaaLawE6
set_option linter.unusedSimpArgs false
set_option linter.unusedVariables false
namespace Go.Proofs.Ytlbnbginippjfaa
open Go.RowKit Fk
set_option maxRecDepth 100000 in
set_option maxHeartbeats 8000000 in
theorem rest_main (l : List Int) (A0 : Option Addr) (c : Nat) (t r : Tr) (n : Int) (w : World) (h : SlI w w.heap.size (.slice A0 l.length c) l) (hl1 : 1 ≤ l.length) (hl6 : l.length ≤ 6) (hn : 0 ≤ n ∧ n ≤ 255) :
    Calls Try.prog 10 #[.slice A0 l.length c, t.val, r.val, .int .u8 n] w fun e w' => e = .returned (.bool true) ∧ Below w.heap.size w w' := by
  have hA : ∃ b off, A0 = some ⟨b, off, none⟩ := by
    obtain ⟨_, A, c', hv, hE⟩ := id h
    obtain ⟨b, off, rfl, _, _⟩ := hE hl1
    injection hv with hv _ _
    exact ⟨b, off, hv⟩
  obtain ⟨ab, ao, rfl⟩ := hA
  have hsec : ∀ W, Below w.heap.size w W → ∀ k, k < l.length → W.cell? ⟨ab, ao + k, none⟩ = some (.int .i64 (l.getD k default)) := by
    intro W hB k hk
    obtain ⟨_, A, c', hv, hE⟩ := h
    obtain ⟨b', off', rfl, hb, hE⟩ := hE hl1
    injection hv with hv _ _
    injection hv with hv
    injection hv with hv1 hv2 _
    have e := (hE.keep (hB.block _ hb)).int (i := k) hk
    rwa [← hv1, ← hv2] at e
  have hab : ab < w.heap.size := by
    obtain ⟨_, A, c', hv, hE⟩ := h
    obtain ⟨b', off', rfl, hb, hE⟩ := hE hl1
    injection hv with hv _ _
    injection hv with hv
    injection hv with hv1 hv2 _
    omega
  have HS := Lib.hid hsec
  obtain ⟨n1, n2⟩ := hn
  have hlz : ((l.length : Int) + 1) ≠ 0 := by omega
  have hlz2 : (((l.length : Int) + 1) == 0) = false := beq_eq_false_iff_ne.2 hlz
  have hw1 : IntKind.i64.wrap ((l.length : Int) + 1) = (l.length : Int) + 1 := IntWalk.i64_in _ (by omega)
  obtain ⟨k0, hk0, hk0l⟩ : ∃ k : Nat, n % ((l.length : Int) + 1) = k ∧ k ≤ l.length := ⟨(n % ((l.length : Int) + 1)).toNat, by have := Int.emod_nonneg n hlz; omega, by have := Int.emod_lt_of_pos n (show (0 : Int) < (l.length : Int) + 1 by omega); have := Int.emod_nonneg n hlz; omega⟩
  have hb0 : ((l.length : Int) == 0) = false := beq_eq_false_iff_ne.2 (by omega)
  have hb6 : decide ((6 : Int) < l.length) = false := decide_eq_false (by omega)
  have HK0 := Lib.hid hk0
  have HN := Lib.hid (And.intro n1 n2)
  have HW1 := Lib.hid hw1
  have HLZ := Lib.hid hlz2
  clear hk0 n1 n2 hlz2 hw1 hlz h hsec
  unfold Tr.val
  obtain ⟨i0, hi, hz0, hz1, hz2⟩ := info_parts infoI4
  go_enter Try.func10, Try.ntmps10
  go_wp2_with (go_at_call 33; (with_reducible refine (sane47 _).mono ?_); rintro e w1 ⟨rfl, hb⟩; obtain ⟨hB, hz, p0, p1⟩ := stepP2 hb; clear hb)
  have hI0 : RI w w1.heap.size t r w1 := ⟨by omega, Nat.le_refl _, hB, p0, p1⟩
  generalize w1.heap.size = B at *
  clear hB hz p0 p1
  go_loopg [9, 10] l.length (fun g kv iv wr => ∃ k : Nat, iv = .int .i64 k ∧ k + g = l.length ∧ Hid (∀ i, i < k → secB (l.getD i default) = true) ∧ RI w B t r wr ∧ wr.ownsRow B 3 1 kv k ((pubs (l.take k)).flatMap encI))
  case atStart => exact ⟨0, rfl, by omega, fun i hi => absurd hi (by omega), hI0, by simpa [pubs] using World.ownsRow_nil w1 _ _ _⟩
  case round =>
    clear hI0
    obtain ⟨k, rfl, hkg, hall, hI, hown⟩ := hrel
    by_cases hlt : k < l.length
    · have d1 := HS.out wr hI.b k hlt
      have hps := pubs_snoc hlt
      obtain ⟨x, hx⟩ : ∃ x, l.getD k default = x := ⟨_, rfl⟩
      have HX := Lib.hid hx
      rw [hx] at d1 hps
      have hm := fun w => public_any x w
      cases hs : secB x with
      | true =>
        rw [pubE_0 hs, show pubC x = powC 4 x by unfold pubC; rw [if_pos hs]] at hm
        have HA : Hid (∀ i, i < k + 1 → secB (l.getD i default) = true) := fun i hi => by
          by_cases e : i = k
          · rw [e, HX.out]; exact hs
          · exact hall.out i (by omega)
        obtain ⟨y, hy⟩ : ∃ y, powC 4 x = y := ⟨_, rfl⟩
        rw [hy] at hm hps
        have HM := Lib.hid hm
        have HP := Lib.hid hps
        clear hm hps hs hx hy hall
        go_wp2_with (first
          | (go_at_call 12; (with_reducible refine (HM.out _).mono ?_); rintro e wn ⟨rfl, hb⟩; replace hown := hown.kept (grown_below hb none) (Classical.em _); replace hI := hI.below hb; clear hb)
          | (at_builtin; refine wpList_append_own _ rfl _ _ 22 rfl B 3 i0 (.int .i64 0) 1 8 Try.underlying22 hi hz0 hz1 hz2 rfl (by decide) _ _ _ rfl (hown.alloc _) ⟨wn.heap.size, 0, none⟩ 1 1 [.int .i64 y] rfl rfl (cell_one_newI _ _ _) (by simp [Value.oneCell']) (by unfold maxLen; omega) (by omega) (by have := hI.sz; simp; omega) ?_; intro v' w2 hown' hgrow _))
        go_roundg (gk - 1)
        case measure => omega
        case rel =>
          refine ⟨k + 1, by go_num, by omega, HA, (hI.alloc _).grown hgrow (fun r e => (hown.lt r e).1), ?_⟩
          rw [HP.out]
          exact hown'
      | false =>
        rw [show pubE x = 110 by unfold pubE; rw [hs]; rfl] at hm
        have HM := Lib.hid hm
        clear hm hps hs hx hall
        go_wp2_with (go_at_call 12; (with_reducible refine (HM.out _).mono ?_); rintro e wn ⟨rfl, hb⟩; replace hI := hI.below hb; clear hb)
        go_ret
        exact ⟨rfl, hI.b⟩
    · obtain rfl : k = l.length := by omega
      rw [List.take_length] at hown
      have hpl : (pubs l).length = l.length := by simp [pubs]
      obtain ⟨A2, c2, rfl, hP⟩ : ∃ A2 c2, u9 = .slice A2 l.length c2 ∧ SlI wr wr.heap.size (.slice A2 l.length c2) (pubs l) := by
        have hP : SlI wr wr.heap.size u9 (pubs l) := own_slI hown (fun _ => rfl) hpl.symm (by omega)
        obtain ⟨_, A2, c2, hv, _⟩ := id hP
        rw [hpl] at hv
        exact ⟨A2, c2, hv, hv ▸ hP⟩
      clear hown hkg hpl
      obtain ⟨e1, e2⟩ := restE_pubs (l := l) (by omega)
      have hR := rest_any (pubs l) _ wr wr.heap.size (Nat.le_refl _) hP
      rw [e1, e2] at hR
      have hrl : (restL (pubs l)).length = l.length + 1 := by rw [restL_length]; simp [pubs]
      have HR := Lib.hid hR
      have HRL := Lib.hid hrl
      clear hR e1 e2 hrl
      go_upto_region 14 with (go_at_call 34; (with_reducible refine HR.out.mono ?_); rintro e wn ⟨rv, rfl, hb, hQ⟩; replace hI := hI.below hb; replace hP := (hP.below hb).mono hb.size; clear hb)
      obtain ⟨b3, o3, c3, rfl, hb3n, hcell⟩ : ∃ b3 o3 c3, rv = .slice (some ⟨b3, o3, none⟩) (l.length + 1) c3 ∧ b3 < wn.heap.size ∧ ∀ W', Below wn.heap.size wn W' → ∀ k, k ≤ l.length → W'.cell? ⟨b3, o3 + k, none⟩ = some (.int .i64 (powC 4 (l.drop k).sum)) := by
        obtain ⟨_, A, c3, hv, hE⟩ := hQ
        obtain ⟨b3, o3, rfl, hb3, hE⟩ := hE (by rw [HRL.out]; omega)
        rw [HRL.out] at hv
        refine ⟨b3, o3, c3, hv, hb3, fun W' hB k hk => ?_⟩
        have e := (hE.keep (hB.block _ hb3)).int (i := k) (by rw [HRL.out]; omega)
        rwa [restL_pow l k hk] at e
      obtain ⟨b2, o2, rfl, hkey⟩ : ∃ b2 o2, A2 = some ⟨b2, o2, none⟩ ∧ ∀ W', Below wn.heap.size wn W' → ∀ k, k < l.length → W'.cell? ⟨b2, o2 + k, none⟩ = some (.int .i64 (powC 4 (l.getD k default))) := by
        have hpl : (pubs l).length = l.length := by simp [pubs]
        obtain ⟨_, A, c3, hv, hE⟩ := hP
        obtain ⟨b2, o2, rfl, hb2, hE⟩ := hE (by rw [hpl]; omega)
        injection hv with hv _ _
        refine ⟨b2, o2, hv, fun W' hB k hk => ?_⟩
        have e := (hE.keep (hB.block _ hb2)).int (i := k) (by rw [hpl]; omega)
        rwa [pubs_get hk] at e
      have d1 : wn.cell? ⟨b3, o3 + l.length, none⟩ = some (.int .i64 1) := by
        have e := hcell wn (Below.refl _ _) l.length (Nat.le_refl _)
        rwa [List.drop_length, List.sum_nil, pow_0 vld_4] at e
      have HC := Lib.hid hcell
      have HK := Lib.hid hkey
      have HI := Lib.hid hI
      have hw1 := HW1.out
      clear hcell hkey hQ hP HR HRL hI
      go_wp2_with fail
      clear d1
      go_loopg [15] l.length (fun g iv wr => ∃ k : Nat, iv = .int .i64 k ∧ k + g = l.length ∧ Below wn.heap.size wn wr)
      case atStart => exact ⟨0, rfl, by omega, Below.refl _ _⟩
      case round =>
        obtain ⟨k, rfl, hkg, hBr⟩ := hrel
        by_cases hlt : k < l.length
        · have d1 := HK.out wr hBr k hlt
          have d2 := HC.out wr hBr (k + 1) (by omega)
          have d3 := HC.out wr hBr k (by omega)
          have hm := fun w => mul_any (powC 4 (l.getD k default)) (powC 4 (l.drop (k + 1)).sum) w
          rw [pow_add' vld_4, ← drop_sum hlt, mulE_pow] at hm
          obtain ⟨x, hx⟩ : ∃ x, powC 4 (l.getD k default) = x := ⟨_, rfl⟩
          obtain ⟨y, hy⟩ : ∃ y, powC 4 (l.drop (k + 1)).sum = y := ⟨_, rfl⟩
          obtain ⟨z, hz⟩ : ∃ z, powC 4 (l.drop k).sum = z := ⟨_, rfl⟩
          rw [hx] at d1 hm
          rw [hy] at d2 hm
          rw [hz] at d3 hm
          have HM := Lib.hid (fun w => (hm w).mono fun e w' hh => And.intro hh.1 hh.2.symm)
          clear hm hx hy hz
          have s1 : IntKind.i64.wrap ((k : Int) + 1) = ((k + 1 : Nat) : Int) := by rw [IntWalk.i64_in _ (by omega)]; omega
          have s2 : (0 : Int) ≤ k := by omega
          have s3 : (k : Int) < l.length := by omega
          have s4 : ((k + 1 : Nat) : Int) < (l.length : Int) + 1 := by omega
          have s5 : (0 : Int) ≤ ((k + 1 : Nat) : Int) := by omega
          have s6 : (k : Int) < (l.length : Int) + 1 := by omega
          go_wp2_with fail
          go_quiet ((go_at_call 30; exact Calls.quiet_of_same (HM.out _)))
          have hbel : Below wn.heap.size wn (wr.drewN nq) := ⟨hBr.os, hBr.tape, hBr.output, hBr.size, hBr.block⟩
          have d3' : (wr.drewN nq).cell? ⟨b3, o3 + k, none⟩ = some (.int .i64 z) := d3
          clear d1 d2 d3 hBr
          generalize wr.drewN nq = W3 at *
          go_wp2_with fail
          go_roundg (gk - 1)
          case measure => omega
          case rel => exact ⟨k + 1, by go_num, by omega, hbel⟩
        · obtain rfl : k = l.length := by omega
          have hI := HI.out.below2 hBr
          have hbr3 : b3 < wr.heap.size := by have := hBr.size; omega
          have d1 := HC.out wr hBr 0 (by omega)
          rw [List.drop_zero, Nat.add_zero] at d1
          have HALL := hall
          clear HC HK HI hBr hkg hall
          have hm := fun w => lt_any l.sum t r w
          obtain ⟨D, hD⟩ : ∃ D, LT l.sum t r = D := ⟨_, rfl⟩
          obtain ⟨E, hE⟩ : ∃ E : Int, (if wOK t then 0 else 100) = E := ⟨_, rfl⟩
          obtain ⟨x, hx⟩ : ∃ x, powC 4 l.sum = x := ⟨_, rfl⟩
          rw [hD, hE, hx] at hm
          rw [hx] at d1
          unfold Se.val Tr.val at hm
          have HM := Lib.hid hm
          have HE := Lib.hid hE
          have HD := Lib.hid hD
          clear hm hx hE hD
          go_upto_region 22 with fail
          go_cut [18, 19] from 112 to 119 (fun sv f W' => f = .int .i64 E ∧ ∃ G, sv = .pointer (some ⟨G, 0, none⟩) ∧ SI w B t r G D W')
          case first =>
            obtain ⟨q0, q1, q2⟩ := st3 hI.p0
            obtain ⟨r0, r1, r2⟩ := st3 hI.p1
            have hz0' := hI.p0.lt
            have hz1' := hI.p1.lt
            have s0 : (0 : Int) < (l.length : Int) + 1 := by omega
            have hK0 : K7 wr ⟨b3, o3, none⟩ ⟨w.heap.size, 0, none⟩ ⟨w.heap.size, 1, none⟩ ⟨w.heap.size, 2, none⟩ ⟨w.heap.size + 1, 0, none⟩ ⟨w.heap.size + 1, 1, none⟩ ⟨w.heap.size + 1, 2, none⟩ (.int .i64 x) (.int .i64 t.p) (.int .i64 t.q) (.int .i64 t.r) (.int .i64 r.p) (.int .i64 r.q) (.int .i64 r.r) wr := ⟨Below.refl _ _, d1, q0, q1, q2, r0, r1, r2⟩
            go_region_held3 (fun w' => Below wr.heap.size wr w' ∧ w'.cell? ⟨b3, o3, none⟩ = some (.int .i64 x) ∧ w'.cell? ⟨w.heap.size, 0, none⟩ = some (.int .i64 t.p) ∧ w'.cell? ⟨w.heap.size, 1, none⟩ = some (.int .i64 t.q) ∧ w'.cell? ⟨w.heap.size, 2, none⟩ = some (.int .i64 t.r) ∧ w'.cell? ⟨w.heap.size + 1, 0, none⟩ = some (.int .i64 r.p) ∧ w'.cell? ⟨w.heap.size + 1, 1, none⟩ = some (.int .i64 r.q) ∧ w'.cell? ⟨w.heap.size + 1, 2, none⟩ = some (.int .i64 r.r))
              (first | with_reducible exact K7.step hbr3 hz0' hz0' hz0' hz1' hz1' hz1' hK0 (set6 (Nat.le_refl _) (za hb)) | with_reducible exact K7.step hbr3 hz0' hz0' hz0' hz1' hz1' hz1' hK0 (Below.refl _ _).drew | with_reducible exact K7.step hbr3 hz0' hz0' hz0' hz1' hz1' hz1' hK0 (zb hb) | with_reducible exact K7.step hbr3 hz0' hz0' hz0' hz1' hz1' hz1' hK0 ((zb hb).alloc (zb hb).size _) | with_reducible exact K7.step hbr3 hz0' hz0' hz0' hz1' hz1' hz1' hK0 ((Below.refl _ _).alloc (Nat.le_refl _) _).drew | with_reducible exact K7.step hbr3 hz0' hz0' hz0' hz1' hz1' hz1' hK0 (za hb))
              (first | (go_at_call 16; (with_reducible refine (HM.out _).mono ?_); rintro e w9 ⟨rfl, hb⟩; first | (have z := zrow hb; have hb2 := za hb; obtain ⟨z0, z1, z2, z3, z4, z5⟩ := st6 z; have y0 := Row.frozen z 0; have y1 := Row.frozen z 1; have y2 := Row.frozen z 2; have y3 := Row.frozen z 3; have y4 := Row.frozen z 4; have y5 := Row.frozen z 5; have hzz := Row.lt z; have fin := SI.new (D := D) hI (Nat.le_refl _) (fin_a (a0 := .int .i64 D.x.a) (a1 := .int .i64 D.x.b) (a2 := .int .i64 D.y.a) (a3 := .int .i64 D.y.b) (a4 := .int .i64 D.z.a) (a5 := .int .i64 D.z.b) hI.b hb2 z)) | (have hb2 := zb hb; have fin := SI.new (D := D) hI hb2.size (fin_b (t := 34) (a0 := .int .i64 D.x.a) (a1 := .int .i64 D.x.b) (a2 := .int .i64 D.y.a) (a3 := .int .i64 D.y.b) (a4 := .int .i64 D.z.a) (a5 := .int .i64 D.z.b) hI.b hb2))))
            all_goals
              go_wp2_with fail
              go_meet
              case rel => exact ⟨rfl, _, rfl, fin⟩
          case rest =>
            obtain ⟨rfl, G, rfl, hSI⟩ := hcut
            clear HM hI d1
            cases hw : wOK t with
            | false =>
              obtain rfl : E = 100 := by rw [← HE.out, hw]; rfl
              clear HE HD
              go_wp2_with fail
              go_ret
              exact ⟨rfl, hSI.i.b⟩
            | true =>
              obtain rfl : E = 0 := by rw [← HE.out, hw]; rfl
              have hS0 : SI w B t r G (LT (l.drop 0).sum t r) wc := by rw [List.drop_zero, HD.out]; exact hSI
              clear HE HD hSI
              obtain ⟨n1, n2⟩ := HN.out
              have hlz2 := HLZ.out
              have hw1 := HW1.out
              go_wp2_with fail
              rw [HK0.out]
              clear n1 n2 hlz2 hw1
              go_loopg [21] k0 (fun g iv wr => ∃ k : Nat, iv = .int .i64 k ∧ k + g = k0 ∧ SI w B t r G (LT (l.drop k).sum t r) wr)
              case atStart => exact ⟨0, rfl, by omega, hS0⟩
              case round =>
                clear hS0
                obtain ⟨k, rfl, hkg, hSI⟩ := hrel
                by_cases hlt : k < k0
                · have d1 := HS.out wr hSI.i.b k (by omega)
                  have hm := fun w => lt_strip (HALL.out k (by omega)) ((l.drop k).sum) hw r w
                  rw [show (l.drop k).sum - l.getD k default = (l.drop (k + 1)).sum by rw [drop_sum (show k < l.length by omega)]; omega] at hm
                  obtain ⟨x, hx⟩ : ∃ x, l.getD k default = x := ⟨_, rfl⟩
                  rw [hx] at d1 hm
                  obtain ⟨C, hC⟩ : ∃ C, LT ((l.drop k).sum) t r = C := ⟨_, rfl⟩
                  obtain ⟨D, hD⟩ : ∃ D, LT ((l.drop (k + 1)).sum) t r = D := ⟨_, rfl⟩
                  rw [hC, hD] at hm
                  rw [hC] at hSI
                  unfold Se.val at hm
                  have HM := Lib.hid hm
                  have HD := Lib.hid hD
                  clear hm hC hD hx
                  have s1 : (0 : Int) ≤ k := by omega
                  have s2 : (k : Int) < l.length := by omega
                  go_upto_region 29 with fail
                  go_cut [22, 23] from 130 to 146 (fun xv e W' => e = .int .i64 0 ∧ ∃ G2, xv = .pointer (some ⟨G2, 0, none⟩) ∧ SI w B t r G C W' ∧ G ≠ G2 ∧ Row W' G2 34 D.cells)
                  case first =>
                    obtain ⟨c0, c1, c2, c3, c4, c5⟩ := st6 hSI.row
                    have hGr := hSI.row.lt
                    have hbr : ab < wr.heap.size := by have := hSI.i.b.size; omega
                    have hK0 : K7 wr ⟨ab, ao + k, none⟩ ⟨G, 0, none⟩ ⟨G, 1, none⟩ ⟨G, 2, none⟩ ⟨G, 3, none⟩ ⟨G, 4, none⟩ ⟨G, 5, none⟩ (.int .i64 x) (.int .i64 C.x.a) (.int .i64 C.x.b) (.int .i64 C.y.a) (.int .i64 C.y.b) (.int .i64 C.z.a) (.int .i64 C.z.b) wr := ⟨Below.refl _ _, d1, c0, c1, c2, c3, c4, c5⟩
                    go_region_held3 (fun w' => Below wr.heap.size wr w' ∧ w'.cell? ⟨ab, ao + k, none⟩ = some (.int .i64 x) ∧ w'.cell? ⟨G, 0, none⟩ = some (.int .i64 C.x.a) ∧ w'.cell? ⟨G, 1, none⟩ = some (.int .i64 C.x.b) ∧ w'.cell? ⟨G, 2, none⟩ = some (.int .i64 C.y.a) ∧ w'.cell? ⟨G, 3, none⟩ = some (.int .i64 C.y.b) ∧ w'.cell? ⟨G, 4, none⟩ = some (.int .i64 C.z.a) ∧ w'.cell? ⟨G, 5, none⟩ = some (.int .i64 C.z.b))
                      (first | with_reducible exact K7.step hbr hGr hGr hGr hGr hGr hGr hK0 (set6 (Nat.le_refl _) (za hb)) | with_reducible exact K7.step hbr hGr hGr hGr hGr hGr hGr hK0 (Below.refl _ _).drew | with_reducible exact K7.step hbr hGr hGr hGr hGr hGr hGr hK0 (zb hb) | with_reducible exact K7.step hbr hGr hGr hGr hGr hGr hGr hK0 ((zb hb).alloc (zb hb).size _) | with_reducible exact K7.step hbr hGr hGr hGr hGr hGr hGr hK0 ((Below.refl _ _).alloc (Nat.le_refl _) _).drew | with_reducible exact K7.step hbr hGr hGr hGr hGr hGr hGr hK0 (za hb))
                      (first | (go_at_call 23; (with_reducible refine (HM.out _).mono ?_); rintro e w9 ⟨rfl, hb⟩; first | (have z := zrow hb; have hb2 := za hb; obtain ⟨z0, z1, z2, z3, z4, z5⟩ := st6 z; have y0 := Row.frozen z 0; have y1 := Row.frozen z 1; have y2 := Row.frozen z 2; have y3 := Row.frozen z 3; have y4 := Row.frozen z 4; have y5 := Row.frozen z 5; have hzz := Row.lt z; have fin := SI.two (D := D) hSI (Nat.le_refl _) (fin_a (a0 := .int .i64 D.x.a) (a1 := .int .i64 D.x.b) (a2 := .int .i64 D.y.a) (a3 := .int .i64 D.y.b) (a4 := .int .i64 D.z.a) (a5 := .int .i64 D.z.b) hSI.i.b hb2 z)) | (have hb2 := zb hb; have fin := SI.two (D := D) hSI hb2.size (fin_b (t := 34) (a0 := .int .i64 D.x.a) (a1 := .int .i64 D.x.b) (a2 := .int .i64 D.y.a) (a3 := .int .i64 D.y.b) (a4 := .int .i64 D.z.a) (a5 := .int .i64 D.z.b) hSI.i.b hb2))))
                    all_goals
                      go_wp2_with fail
                      go_meet
                      case rel => exact ⟨rfl, _, rfl, fin⟩
                  case rest =>
                    obtain ⟨rfl, G2, rfl, hS2, hne, hrow2⟩ := hcut
                    clear hSI HM d1
                    obtain ⟨c0, c1, c2, c3, c4, c5⟩ := st6 hrow2
                    obtain ⟨z0, z1, z2, z3, z4, z5⟩ := st6 hS2.row
                    have y0 := Row.frozen hS2.row 0
                    have y1 := Row.frozen hS2.row 1
                    have y2 := Row.frozen hS2.row 2
                    have y3 := Row.frozen hS2.row 3
                    have y4 := Row.frozen hS2.row 4
                    have y5 := Row.frozen hS2.row 5
                    have hGr := hS2.row.lt
                    have hGr2 := hrow2.lt
                    have h10 := hS2.put D
                    clear hS2 hrow2
                    go_wp2_with fail
                    go_roundg (gk - 1)
                    case measure => omega
                    case rel => exact ⟨k + 1, by go_num, by omega, by rw [HD.out]; exact h10⟩
                · obtain rfl : k = k0 := by omega
                  have hS1 : SI w B t r G (LT (mid l k l.length) t r) wr := by rw [mid_all]; exact hSI
                  clear hSI
                  go_wp2_with fail
                  go_loopg [24] (l.length - k) (fun g iv wr => ∃ m : Nat, iv = .int .i64 ((m : Int) - 1) ∧ k + g = m ∧ m ≤ l.length ∧ SI w B t r G (LT (mid l k m) t r) wr)
                  case atStart => exact ⟨l.length, by go_num, by omega, Nat.le_refl _, hS1⟩
                  case round =>
                    clear hS1
                    obtain ⟨m, rfl, hgm, hml, hSI⟩ := hrel
                    by_cases hlt : k < m
                    · obtain ⟨m, rfl⟩ : ∃ m', m = m' + 1 := ⟨m - 1, by omega⟩
                      rw [show ((m + 1 : Nat) : Int) - 1 = (m : Int) from by omega]
                      have hkm : k ≤ m := by omega
                      have hmL : m < l.length := by omega
                      have s3 : (k : Int) ≤ (m : Int) := by omega
                      have HG := Lib.hid (show gk - 1 < gk ∧ k + (gk - 1) = m by omega)
                      clear hgm hlt hml
                      have d1 := HS.out wr hSI.i.b m (by omega)
                      have hm := fun w => lt_strip (HALL.out m (by omega)) (mid l k (m + 1)) hw r w
                      rw [mid_step hkm hmL] at hm
                      obtain ⟨x, hx⟩ : ∃ x, l.getD m default = x := ⟨_, rfl⟩
                      rw [hx] at d1 hm
                      obtain ⟨C, hC⟩ : ∃ C, LT (mid l k (m + 1)) t r = C := ⟨_, rfl⟩
                      obtain ⟨D, hD⟩ : ∃ D, LT (mid l k m) t r = D := ⟨_, rfl⟩
                      rw [hC, hD] at hm
                      rw [hC] at hSI
                      unfold Se.val at hm
                      have HM := Lib.hid hm
                      have HD := Lib.hid hD
                      clear hm hC hD hx
                      have s1 : (0 : Int) ≤ m := by omega
                      have s2 : (m : Int) < l.length := by omega
                      go_upto_region 36 with fail
                      go_cut [25, 26] from 150 to 166 (fun xv e W' => e = .int .i64 0 ∧ ∃ G2, xv = .pointer (some ⟨G2, 0, none⟩) ∧ SI w B t r G C W' ∧ G ≠ G2 ∧ Row W' G2 34 D.cells)
                      case first =>
                        obtain ⟨c0, c1, c2, c3, c4, c5⟩ := st6 hSI.row
                        have hGr := hSI.row.lt
                        have hbr : ab < wr.heap.size := by have := hSI.i.b.size; omega
                        have hK0 : K7 wr ⟨ab, ao + m, none⟩ ⟨G, 0, none⟩ ⟨G, 1, none⟩ ⟨G, 2, none⟩ ⟨G, 3, none⟩ ⟨G, 4, none⟩ ⟨G, 5, none⟩ (.int .i64 x) (.int .i64 C.x.a) (.int .i64 C.x.b) (.int .i64 C.y.a) (.int .i64 C.y.b) (.int .i64 C.z.a) (.int .i64 C.z.b) wr := ⟨Below.refl _ _, d1, c0, c1, c2, c3, c4, c5⟩
                        go_region_held3 (fun w' => Below wr.heap.size wr w' ∧ w'.cell? ⟨ab, ao + m, none⟩ = some (.int .i64 x) ∧ w'.cell? ⟨G, 0, none⟩ = some (.int .i64 C.x.a) ∧ w'.cell? ⟨G, 1, none⟩ = some (.int .i64 C.x.b) ∧ w'.cell? ⟨G, 2, none⟩ = some (.int .i64 C.y.a) ∧ w'.cell? ⟨G, 3, none⟩ = some (.int .i64 C.y.b) ∧ w'.cell? ⟨G, 4, none⟩ = some (.int .i64 C.z.a) ∧ w'.cell? ⟨G, 5, none⟩ = some (.int .i64 C.z.b))
                          (first | with_reducible exact K7.step hbr hGr hGr hGr hGr hGr hGr hK0 (set6 (Nat.le_refl _) (za hb)) | with_reducible exact K7.step hbr hGr hGr hGr hGr hGr hGr hK0 (Below.refl _ _).drew | with_reducible exact K7.step hbr hGr hGr hGr hGr hGr hGr hK0 (zb hb) | with_reducible exact K7.step hbr hGr hGr hGr hGr hGr hGr hK0 ((zb hb).alloc (zb hb).size _) | with_reducible exact K7.step hbr hGr hGr hGr hGr hGr hGr hK0 ((Below.refl _ _).alloc (Nat.le_refl _) _).drew | with_reducible exact K7.step hbr hGr hGr hGr hGr hGr hGr hK0 (za hb))
                          (first | (go_at_call 23; (with_reducible refine (HM.out _).mono ?_); rintro e w9 ⟨rfl, hb⟩; first | (have z := zrow hb; have hb2 := za hb; obtain ⟨z0, z1, z2, z3, z4, z5⟩ := st6 z; have y0 := Row.frozen z 0; have y1 := Row.frozen z 1; have y2 := Row.frozen z 2; have y3 := Row.frozen z 3; have y4 := Row.frozen z 4; have y5 := Row.frozen z 5; have hzz := Row.lt z; have fin := SI.two (D := D) hSI (Nat.le_refl _) (fin_a (a0 := .int .i64 D.x.a) (a1 := .int .i64 D.x.b) (a2 := .int .i64 D.y.a) (a3 := .int .i64 D.y.b) (a4 := .int .i64 D.z.a) (a5 := .int .i64 D.z.b) hSI.i.b hb2 z)) | (have hb2 := zb hb; have fin := SI.two (D := D) hSI hb2.size (fin_b (t := 34) (a0 := .int .i64 D.x.a) (a1 := .int .i64 D.x.b) (a2 := .int .i64 D.y.a) (a3 := .int .i64 D.y.b) (a4 := .int .i64 D.z.a) (a5 := .int .i64 D.z.b) hSI.i.b hb2))))
                        all_goals
                          go_wp2_with fail
                          go_meet
                          case rel => exact ⟨rfl, _, rfl, fin⟩
                      case rest =>
                        obtain ⟨rfl, G2, rfl, hS2, hne, hrow2⟩ := hcut
                        clear hSI HM d1
                        obtain ⟨c0, c1, c2, c3, c4, c5⟩ := st6 hrow2
                        obtain ⟨z0, z1, z2, z3, z4, z5⟩ := st6 hS2.row
                        have y0 := Row.frozen hS2.row 0
                        have y1 := Row.frozen hS2.row 1
                        have y2 := Row.frozen hS2.row 2
                        have y3 := Row.frozen hS2.row 3
                        have y4 := Row.frozen hS2.row 4
                        have y5 := Row.frozen hS2.row 5
                        have hGr := hS2.row.lt
                        have hGr2 := hrow2.lt
                        have h10 := hS2.put D
                        clear hS2 hrow2
                        go_wp2_with fail
                        go_roundg (gk - 1)
                        case measure => exact HG.out.1
                        case rel => exact ⟨m, by go_num, HG.out.2, by omega, by rw [HD.out]; exact h10⟩
                    · obtain rfl : m = k := by omega
                      rw [mid_self] at hSI
                      have hm := fun w => lt_read hw r w
                      obtain ⟨C, hC⟩ : ∃ C, LT 0 t r = C := ⟨_, rfl⟩
                      rw [hC] at hm hSI
                      have bq := fun w => runT t t w
                      simp only [eqTr_self] at bq
                      unfold Se.val Tr.val at hm
                      unfold Tr.val at bq
                      have HM := Lib.hid hm
                      clear hm hC
                      obtain ⟨c0, c1, c2, c3, c4, c5⟩ := st6 hSI.row
                      have hlt2 : ¬ ((m : Int) ≤ (m : Int) - 1) := by omega
                      go_wp2_with (go_at_call 24; (with_reducible refine (HM.out _).mono ?_); rintro e wr1 ⟨rfl, hb⟩; replace hSI := hSI.below hb; clear c0 c1 c2 c3 c4 c5; obtain ⟨d0, d1, d2⟩ := st3 hSI.i.p0; have hpr := hSI.i.p0.lt)
                      go_ret
                      exact ⟨rfl, hSI.i.b.alloc hSI.i.b.size _⟩
end Go.Proofs.Ytlbnbginippjfaa
