import Derived.Test.YtlenfjpogmmfhaaOther
namespace Go.Proofs.Ytlenfjpogmmfhaa
open Go.RowKit Fk

/-- what is picked, share by share -/
theorem pk_get {s : Int} {more : List Int} {n : Nat} {B : Nat → Bool} {most : Nat} {turned : Bool} {i : Nat} (hi : i < (pkL B most turned (dealTo s more n) n).length) :
    ∃ m : Nat, m < n ∧ (pkL B most turned (dealTo s more n) n).getD i default = ⟨(m : Int) + 1, pval s more ((m : Int) + 1)⟩ := by
  have hm : (pkL B most turned (dealTo s more n) n).getD i default ∈ pkL B most turned (dealTo s more n) n := by
    rw [List.getD_eq_getElem?_getD, List.getElem?_eq_getElem hi]; exact List.getElem_mem _
  obtain ⟨m, hm, e⟩ := pk_mem n hm
  exact ⟨m, hm, by rw [e, dealTo_get hm]⟩
theorem map_get (X : List Sh) (i : Nat) (h : i < X.length) : (X.map (·.a)).getD i default = (X.getD i default).a := by
  rw [List.getD_eq_getElem?_getD, List.getD_eq_getElem?_getD, List.getElem?_map, List.getElem?_eq_getElem h]; rfl
theorem take_mapa {X : List Sh} {k : Nat} (h : k < X.length) : (X.take (k + 1)).map (·.a) = (X.take k).map (·.a) ++ [(X.getD k default).a] := by
  rw [take_snocS h, List.map_append]; rfl
theorem cell_one_new (w : World) (x : Value) (t : TypeId) : ∀ j u, [x][j]? = some u → (w.alloc (.cells #[x] t)).cell? ((⟨w.heap.size, 0, none⟩ : Addr).add j) = some u := by
  intro j u hj
  match j, hj with
  | 0, hj => simp at hj; subst hj; simp [Addr.add]
  | (j + 1), hj => simp at hj

theorem lt_of_q {m y : Nat} {n : Int} (h5 : (y : Int) = n) (h : m < n.toNat) : m < y := by omega
theorem wrap_m1 {m : Nat} {n : Int} (h : m < n.toNat) (h2 : n ≤ 24) : IntKind.i64.wrap ((m : Int) + 1 - 1) = (m : Int) := by
  rw [IntWalk.i64_in _ (by omega)]; omega

set_option maxRecDepth 100000 in
set_option maxHeartbeats 4000000 in
theorem epochsHidden_walk (s o : Int) (l : List Int) (v : Value) (n b : Int) (w : World) (h : SlI w w.heap.size v l) :
    Calls Try.prog 12 #[.int .i64 s, .int .i64 o, v, .int .i64 n, .int .u32 b] w fun e w' => e = .returned (.bool true) ∧ Below w.heap.size w w' := by
  have hv := h
  obtain ⟨hlen, A, c, rfl, _⟩ := hv
  have hB : Below w.heap.size w w := Below.refl _ _
  have c1 := fun (w : World) => deal_any s n l (.slice A l.length c) w
  have HS := Lib.hid h
  by_cases hE : dealE s l.length n = 0 ∧ 1 ≤ o ∧ o < 1073741789
  rotate_left
  · obtain ⟨E, hEE⟩ : ∃ E, dealE s l.length n = E := ⟨_, rfl⟩
    rw [hEE] at c1 hE
    have H1 := Lib.hid c1
    have hE2 : (E != 0) = true ∨ decide (o < 1) = true ∨ decide (1073741789 ≤ o) = true := by
      by_cases h1 : E = 0
      · by_cases h2 : o < 1
        · exact .inr (.inl (by simpa using h2))
        · exact .inr (.inr (by simp; omega))
      · exact .inl (by simpa using h1)
    clear c1 hEE hE
    rcases hE2 with h1 | h1 | h1
    all_goals
      go_enter Try.func12, Try.ntmps12
      go_wp2_with (first
        | (go_at_call 25; refine (sane47 _).mono ?_; rintro e w1 ⟨rfl, hb⟩; replace hB := hB.trans (hb.mono hB.size); clear hb)
        | (go_at_call 32; refine (H1.out _ _ hB.size (h.below hB)).mono ?_; rintro e w1 ⟨r, rfl, hb, hs⟩; replace hB := hB.trans (hb.mono hB.size); clear hb; obtain ⟨_, A2, c2, rfl, _⟩ := hs))
      all_goals go_ret
      all_goals exact ⟨rfl, hB⟩
  obtain ⟨hE, o1, o2⟩ := hE
  have hok : 1 ≤ s ∧ s < 1073741789 ∧ 1 ≤ n ∧ n ≤ 24 ∧ (l.length : Int) < n := by
    unfold dealE at hE
    split at hE
    · omega
    · split at hE
      · omega
      · omega
  obtain ⟨s1, s2, n1, n2, n3⟩ := hok
  have e2 : dealV s l n = dealTo s l n.toNat := by unfold dealV; rw [if_pos hE]
  rw [e2, hE] at c1
  have hdl := dealTo_length s l n.toNat
  have hpg := fun (i : Nat) => pk_get (s := s) (more := l) (n := n.toNat) (B := bitU b) (most := l.length) (turned := false) (i := i)
  obtain ⟨D, hD⟩ : ∃ D, dealTo s l n.toNat = D := ⟨_, rfl⟩
  rw [hD] at c1 hdl hpg
  have c2 := fun (v : Value) (w : World) => picked_any D v b l.length false w w.heap.size (Nat.le_refl _) (by omega) (by omega)
  have hpl := pk_len (bitU b) l.length false D n.toNat
  rw [hdl, show ((l.length : Int)).toNat = l.length from by omega] at c2
  obtain ⟨X, hX⟩ : ∃ X, pkL (bitU b) l.length false D n.toNat = X := ⟨_, rfl⟩
  rw [hX] at c2 hpl hpg
  obtain ⟨hpl1, hpl2⟩ := hpl
  have hPl : (X.map (·.a)).length = X.length := by simp
  have hPb : ∀ i, i < (X.map (·.a)).length → 1 ≤ (X.map (·.a)).getD i default ∧ (X.map (·.a)).getD i default ≤ 24 := fun i hi => by
    rw [hPl] at hi
    obtain ⟨m, hm, e⟩ := hpg i hi
    rw [map_get X i hi, e]; simp only []; omega
  have hlaw := fun (i : Nat) (hi : i < X.length) => other_law (s := s) (o := o) (more := l) (places := X.map (·.a)) (by omega) hPb (i := i) (by omega)
  have hYl := otherL_length s l o (X.map (·.a))
  have c3 := fun (pv : Value) (w : World) (B0 : Nat) (hB0 : B0 ≤ w.heap.size) => other_any s o l (X.map (·.a)) (.slice A l.length c) pv w B0 hB0 ⟨s1, s2⟩ ⟨o1, o2⟩ (by omega) (by omega)
  obtain ⟨O, hO⟩ : ∃ O, otherL s l o (X.map (·.a)) = O := ⟨_, rfl⟩
  rw [hO] at hlaw hYl c3
  have hE4 : dealE o O.length n = 0 := by
    unfold dealE; rw [if_neg (by omega), if_neg (by omega)]
  have e4 : dealV o O n = dealTo o O n.toNat := by unfold dealV; rw [if_pos hE4]
  have c4 := fun (v : Value) (w : World) => deal_any o n O v w w.heap.size (Nat.le_refl _)
  rw [hE4, e4] at c4
  have hdl4 := dealTo_length o O n.toNat
  have hYX : ∀ i, i < X.length → ∃ m : Nat, m < n.toNat ∧ (X.getD i default).a = (m : Int) + 1 ∧ (dealTo o O n.toNat).getD m default = X.getD i default := fun i hi => by
    obtain ⟨m, hm, e⟩ := hpg i hi
    refine ⟨m, hm, by rw [e], ?_⟩
    have := hlaw i hi
    rw [map_get X i hi, e] at this
    rw [dealTo_get hm, e]
    simp only [] at this
    rw [this]
  obtain ⟨Y, hY⟩ : ∃ Y, dealTo o O n.toNat = Y := ⟨_, rfl⟩
  rw [hY] at c4 hdl4 hYX
  have hq : ((D.length : Int) != n) = false := by simp; omega
  have hq4 : ((Y.length : Int) != n) = false := by simp; omega
  have hq5 : (Y.length : Int) = n := by omega
  have HQ5 := Lib.hid hq5
  have hX24 : X.length ≤ 24 := by omega
  have H1 := Lib.hid c1
  have H2 := Lib.hid c2
  have H3 := Lib.hid c3
  have H4 := Lib.hid c4
  have HYX := Lib.hid hYX
  clear c1 c2 c3 c4 hYX hE hdl hpg hD hX hPl hPb hlaw hYl hO hE4 e4 hdl4 hY e2 hq5
  obtain ⟨i0, hi, hz0, hz1, hz2⟩ := info_parts infoI
  go_enter Try.func12, Try.ntmps12
  go_wp2_with (first
    | (go_at_call 25; refine (sane47 _).mono ?_; rintro e w1 ⟨rfl, hb⟩; replace hB := hB.trans (hb.mono hB.size); clear hb)
    | (go_at_call 32; refine (H1.out _ _ hB.size (h.below hB)).mono ?_; rintro e w1 ⟨r, rfl, hb, hs⟩; replace hB := hB.trans (hb.mono hB.size); clear hb; have hs2 := hs; obtain ⟨_, A2, c2, rfl, _⟩ := hs2; have hc2 := H2.out _ _ hs; clear hs)
    | (go_at_call 38; refine hc2.mono ?_; rintro e w1 ⟨r, rfl, hb, hs⟩; replace hB := hB.trans (hb.mono hB.size); clear hb hc2; have hs2 := hs; obtain ⟨_, A3, c3, rfl, _⟩ := hs2))
  have HX := Lib.hid hs
  obtain ⟨W1, hW1⟩ : ∃ W1, w1 = W1 := ⟨_, rfl⟩
  rw [hW1] at HX hB ⊢
  clear hs hW1
  go_loopg [14, 15] X.length (fun g r x wr => Below W1.heap.size W1 wr ∧ ∃ k : Nat, x = .int .i64 k ∧ k + g = X.length ∧ wr.ownsRow W1.heap.size 3 1 r k (mi ((X.take k).map (·.a))))
  case atStart => exact ⟨Below.refl _ _, 0, rfl, by omega, by simpa [mi] using World.ownsRow_nil W1 _ _ _⟩
  case round =>
    obtain ⟨hBr, k, rfl, hkg, hown⟩ := hrel
    have hzw := hBr.size
    by_cases hlt : k < X.length
    · obtain ⟨_, A', c', hv, hE0⟩ := HX.out.below hBr
      obtain ⟨bb, off, rfl, hbb, hE⟩ := hE0 (by omega)
      clear hE0
      cases hv
      have d1 := hE k hlt 0 (by omega)
      have hts := take_mapa hlt
      obtain ⟨m, hm1, hm2, hm3⟩ := HYX.out k hlt
      rw [hm2] at hts
      have d2 : wr.cell? ⟨bb, off + k * 2, none⟩ = some (.int .i64 ((m : Int) + 1)) := by
        rw [← hm2]; simpa [encSh] using d1
      have HT : Hid (mi ((X.take (k + 1)).map (·.a)) = mi ((X.take k).map (·.a)) ++ [.int .i64 ((m : Int) + 1)]) := by
        show _ = _
        rw [hts]; simp [mi]
      have q1 : (m : Int) + 1 ≤ n := by omega
      clear hE d1 hts hm1 hm2 hm3
      go_wp2_with (at_builtin; refine wpList_append_own _ rfl _ _ 39 rfl W1.heap.size 3 i0 (.int .i64 0) 1 8 Try.underlying39 hi hz0 hz1 hz2 rfl (by decide) _ _ _ rfl (hown.alloc _) ⟨wr.heap.size, 0, none⟩ 1 1 [.int .i64 ((m : Int) + 1)] rfl rfl (cell_one_new _ _ _) (by simp [Value.oneCell']) (by unfold maxLen; omega) (by omega) (by simp; omega) ?_; intro v' w2 hown' hgrow _)
      go_roundg (gk - 1)
      case measure => omega
      case rel =>
        refine ⟨(hBr.alloc hBr.size _).grown hgrow (by simp; omega) (fun r e => (hown.lt r e).1), k + 1, by go_num, by omega, ?_⟩
        rw [HT.out]
        exact hown'
    · obtain rfl : k = X.length := by omega
      rw [List.take_length] at hown
      have hown2 : wr.ownsRow W1.heap.size 3 1 u14 X.length ((X.map (·.a)).flatMap encI) := by rw [encI_map]; exact hown
      have hPl : X.length = (X.map (·.a)).length := by simp
      have hPr : SlI wr wr.heap.size u14 (X.map (·.a)) := own_sl hown2 (fun _ => rfl) hPl (by omega)
      obtain ⟨A4, c4, hu⟩ : ∃ A4 c4, u14 = .slice A4 X.length c4 := by
        obtain ⟨_, A, c, h, _⟩ := hPr
        exact ⟨A, c, by rw [h, ← hPl]⟩
      subst hu
      have hB2 : Below w.heap.size w wr := hB.trans (hBr.mono hB.size)
      have hc3 := H3.out _ wr wr.heap.size (Nat.le_refl _) ((HS.out.below hB2).mono hB2.size) hPr
      have HX2 := Lib.hid (HX.out.below hBr)
      have HC3 := Lib.hid hc3
      have hz1 : W1.heap.size ≤ wr.heap.size := hBr.size
      have hz0 : w.heap.size ≤ W1.heap.size := hB.size
      clear hc3 hown hown2 hBr hPl hPr
      go_wp2_with (first
        | (go_at_call 39; refine HC3.out.mono ?_; rintro e w2 ⟨r, rfl, hb, hs⟩; replace hB2 := hB2.trans (hb.mono hB2.size); replace HX2 := Lib.hid (HX2.out.below (hb.mono hz1)); replace hz1 := Nat.le_trans hz1 hb.size; clear hb; have hs2 := hs; obtain ⟨_, A5, c5, rfl, _⟩ := hs2; have hc4 := H4.out _ _ hs; clear hs)
        | (go_at_call 32; refine hc4.mono ?_; rintro e w3 ⟨r, rfl, hb, hs⟩; replace hB2 := hB2.trans (hb.mono hB2.size); replace HX2 := Lib.hid (HX2.out.below (hb.mono hz1)); replace hz1 := Nat.le_trans hz1 hb.size; clear hb hc4; have hs2 := hs; obtain ⟨_, A5, c5, rfl, _⟩ := hs2))
      have HY := Lib.hid hs
      have HX3 : Hid (SlSh w3 w3.heap.size (.slice A3 X.length c3) X) := HX2.out.mono hz1
      obtain ⟨W3, hW3⟩ : ∃ W3, w3 = W3 := ⟨_, rfl⟩
      rw [hW3] at HY HX3 hB2 ⊢
      have hbz : w.heap.size ≤ W3.heap.size := hB2.size
      clear hs hW3 HX2 hz1
      go_loopg [18] X.length (fun g x wr => Below W3.heap.size W3 wr ∧ ∃ k : Nat, x = .int .i64 k ∧ k + g = X.length)
      case atStart => exact ⟨Below.refl _ _, 0, rfl, by omega⟩
      case round =>
        obtain ⟨hBr, k, rfl, hkg⟩ := hrel
        by_cases hlt : k < X.length
        · obtain ⟨_, A', c', hv, hE0⟩ := HX3.out.below hBr
          obtain ⟨bb, off, rfl, hbb, hE⟩ := hE0 (by omega)
          clear hE0
          cases hv
          obtain ⟨m, hm1, hm2, hm3⟩ := HYX.out k hlt
          have hmY : m < Y.length := lt_of_q HQ5.out hm1
          obtain ⟨_, A', c', hv, hF0⟩ := HY.out.below hBr
          obtain ⟨bY, offy, rfl, hby, hF⟩ := hF0 (Nat.lt_of_le_of_lt (Nat.zero_le _) hmY)
          clear hF0
          cases hv
          have d1 := hE k hlt 0 (by omega)
          have d2 := hE k hlt 1 (by omega)
          have g1 := hF m hmY 0 (by omega)
          have g2 := hF m hmY 1 (by omega)
          rw [hm3] at g1 g2
          generalize X.getD k default = z at d1 d2 g1 g2 hm2
          simp only [encSh, List.getD_cons_zero, List.getD_cons_succ, Nat.add_zero] at d1 d2 g1 g2
          rw [hm2] at d1 g1
          have hkz : k < X.length := hlt
          have s0 : (((m : Int) + 1) != ((m : Int) + 1)) = false := by simp
          have s1 : (z.v != z.v) = false := by simp
          have s2 : (0 : Int) ≤ (k : Int) := Int.natCast_nonneg k
          have s3 : ((k : Int)).toNat = k := Int.toNat_natCast k
          have s4 : (k : Int) < X.length := Int.ofNat_lt.2 hkz
          have s5 : IntKind.i64.wrap ((m : Int) + 1 - 1) = (m : Int) := wrap_m1 hm1 n2
          have s6 : (0 : Int) ≤ (m : Int) := Int.natCast_nonneg m
          have s7 : (m : Int) < Y.length := Int.ofNat_lt.2 hmY
          clear hE hF hm2 hm3
          go_wp2_with fail
          go_quiet (fail)
          clear s2 s3 s4 s5 s6 s7
          go_wp2_with fail
          go_roundg (gk - 1)
          case measure => omega
          case rel => exact ⟨by first | exact hBr | exact below_drewN hBr _, k + 1, by go_num, by omega⟩
        · go_wp2_with fail
          go_ret
          exact ⟨rfl, hB2.trans (hBr.mono hbz)⟩
end Go.Proofs.Ytlenfjpogmmfhaa
