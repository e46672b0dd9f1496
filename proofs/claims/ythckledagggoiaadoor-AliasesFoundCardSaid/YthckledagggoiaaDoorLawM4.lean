import Derived.Test.YthckledagggoiaaDoorAsL2
import Derived.Deep.QuietTactic
import Derived.BigQuiet
set_option linter.unusedSimpArgs false
set_option linter.unusedVariables false
namespace Go.Proofs.YthckledagggoiaaDoor
open Go.RowKit Go.MapKept Go.Shelf Fk Sha
/-! AliasesFound -/
set_option maxRecDepth 100000 in
set_option maxHeartbeats 4000000 in
theorem aliasesFound_early (s : Int) (A : Option Addr) (q c : Nat) (person people more o day time : Int) (w : World) (hT : TabOK w) (h : ¬ (fewB q people = true ∧ fewB q more = true ∧ people ≤ more ∧ more ≤ 12 ∧ 0 ≤ person ∧ person < people)) :
    Calls Tryd.prog 6 #[.int .i64 s, .slice A q c, .int .i64 person, .int .i64 people, .int .i64 more, .int .i64 o, .int .i64 day, .int .i64 time] w fun e w' => e = .returned (.bool true) ∧ Below w.heap.size w w' := by
  have c1 := sane35_any w hT
  have f1 := fun W => few35_any A q c people W
  have f2 := fun W => few35_any A q c more W
  obtain ⟨r1, hr1⟩ : ∃ r, fewB q people = r := ⟨_, rfl⟩
  obtain ⟨r2, hr2⟩ : ∃ r, fewB q more = r := ⟨_, rfl⟩
  rw [hr1] at f1 h
  rw [hr2] at f2 h
  have C1 := Lib.hid c1
  have F1 := Lib.hid f1
  have F2 := Lib.hid f2
  clear c1 f1 f2 hr1 hr2 hT
  cases r1 with
  | false =>
    clear h
    go_enter Tryd.func6, Tryd.ntmps6
    go_wp2_with (first
      | (go_at_call 7; (with_reducible refine (C1.out).mono ?_); rintro e X ⟨rfl, hB⟩)
      | (go_at_call 13; (with_reducible refine (F1.out _).mono ?_); rintro e Y ⟨rfl, rfl⟩))
    go_ret
    exact ⟨rfl, hB⟩
  | true =>
    cases r2 with
    | false =>
      clear h
      go_enter Tryd.func6, Tryd.ntmps6
      go_wp2_with (first
        | (go_at_call 7; (with_reducible refine (C1.out).mono ?_); rintro e X ⟨rfl, hB⟩)
        | (go_at_call 13; (with_reducible refine (F1.out _).mono ?_); rintro e Y ⟨rfl, rfl⟩)
        | (go_at_call 13; (with_reducible refine (F2.out _).mono ?_); rintro e Y ⟨rfl, rfl⟩))
      go_ret
      exact ⟨rfl, hB⟩
    | true =>
      by_cases h3 : more < people
      · have g3 : decide (more < people) = true := decide_eq_true h3
        clear h h3
        go_enter Tryd.func6, Tryd.ntmps6
        go_wp2_with (first
          | (go_at_call 7; (with_reducible refine (C1.out).mono ?_); rintro e X ⟨rfl, hB⟩)
          | (go_at_call 13; (with_reducible refine (F1.out _).mono ?_); rintro e Y ⟨rfl, rfl⟩)
          | (go_at_call 13; (with_reducible refine (F2.out _).mono ?_); rintro e Y ⟨rfl, rfl⟩))
        go_ret
        exact ⟨rfl, hB⟩
      have g3 : decide (more < people) = false := decide_eq_false h3
      by_cases h4 : 12 < more
      · have g4 : decide (12 < more) = true := decide_eq_true h4
        clear h h3 h4
        go_enter Tryd.func6, Tryd.ntmps6
        go_wp2_with (first
          | (go_at_call 7; (with_reducible refine (C1.out).mono ?_); rintro e X ⟨rfl, hB⟩)
          | (go_at_call 13; (with_reducible refine (F1.out _).mono ?_); rintro e Y ⟨rfl, rfl⟩)
          | (go_at_call 13; (with_reducible refine (F2.out _).mono ?_); rintro e Y ⟨rfl, rfl⟩))
        go_ret
        exact ⟨rfl, hB⟩
      have g4 : decide (12 < more) = false := decide_eq_false h4
      by_cases h5 : person < 0
      · have g5 : decide (person < 0) = true := decide_eq_true h5
        clear h h3 h4 h5
        go_enter Tryd.func6, Tryd.ntmps6
        go_wp2_with (first
          | (go_at_call 7; (with_reducible refine (C1.out).mono ?_); rintro e X ⟨rfl, hB⟩)
          | (go_at_call 13; (with_reducible refine (F1.out _).mono ?_); rintro e Y ⟨rfl, rfl⟩)
          | (go_at_call 13; (with_reducible refine (F2.out _).mono ?_); rintro e Y ⟨rfl, rfl⟩))
        go_ret
        exact ⟨rfl, hB⟩
      have g5 : decide (person < 0) = false := decide_eq_false h5
      have g6 : decide (people ≤ person) = true := decide_eq_true (by
        by_cases h6 : people ≤ person
        · exact h6
        · exact absurd ⟨rfl, rfl, by omega, by omega, by omega, by omega⟩ h)
      clear h h3 h4 h5
      go_enter Tryd.func6, Tryd.ntmps6
      go_wp2_with (first
        | (go_at_call 7; (with_reducible refine (C1.out).mono ?_); rintro e X ⟨rfl, hB⟩)
        | (go_at_call 13; (with_reducible refine (F1.out _).mono ?_); rintro e Y ⟨rfl, rfl⟩)
        | (go_at_call 13; (with_reducible refine (F2.out _).mono ?_); rintro e Y ⟨rfl, rfl⟩))
      go_ret
      exact ⟨rfl, hB⟩
theorem least_ex (F : Nat → Int) (a : Int) : ∀ n : Nat, (∃ k, k < n ∧ F k = a ∧ ∀ q, q < k → F q ≠ a) ∨ ∀ q, q < n → F q ≠ a := by
  intro n
  induction n with
  | zero => exact .inr fun q hq => by omega
  | succ n ih =>
    rcases ih with ⟨k, h1, h2⟩ | h
    · exact .inl ⟨k, by omega, h2⟩
    · by_cases hn : F n = a
      · exact .inl ⟨n, by omega, hn, h⟩
      · refine .inr fun q hq => ?_
        by_cases hqn : q = n
        · rw [hqn]; exact hn
        · exact h q (by omega)
theorem first_ex (F : Nat → Int) (P : Nat) : ∃ k, k ≤ P ∧ F k = F P ∧ ∀ M, k < M → firstA F (F P) M = some k := by
  rcases least_ex F (F P) (P + 1) with ⟨k, h1, h2, h3⟩ | h
  · exact ⟨k, by omega, h2, fun M hM => firstA_some hM h2 h3⟩
  · exact absurd rfl (h P (by omega))
set_option maxRecDepth 100000 in
set_option maxHeartbeats 8000000 in
theorem aliasesFound_late (s : Int) (l : List En) (A : Option Addr) (c P N M : Nat) (o day time : Int) (w : World) (hT : TabOK w) (hl : SlE w w.heap.size (.slice A l.length c) l)
    (hf1 : fewB l.length (N : Int) = true) (hf2 : fewB l.length (M : Int) = true) (h1 : N ≤ M) (h2 : M ≤ 12) (h3 : P < N) :
    Calls Tryd.prog 6 #[.int .i64 s, .slice A l.length c, .int .i64 P, .int .i64 N, .int .i64 M, .int .i64 o, .int .i64 day, .int .i64 time] w fun e w' => e = .returned (.bool true) ∧ Below w.heap.size w w' := by
  have c1 := sane35_any w hT
  have f1 := fun W => few35_any A l.length c N W
  have f2 := fun W => few35_any A l.length c M W
  rw [hf1] at f1
  rw [hf2] at f2
  have g3 : decide ((M : Int) < N) = false := decide_eq_false (by omega)
  have g4 : decide (12 < (M : Int)) = false := decide_eq_false (by omega)
  have g5 : decide ((P : Int) < 0) = false := decide_eq_false (by omega)
  have g6 : decide ((N : Int) ≤ P) = false := decide_eq_false (by omega)
  have t3 : ¬ M < N := by omega
  have t4 : ¬ 12 < M := by omega
  have t6 : ¬ N ≤ P := by omega
  have C1 := Lib.hid c1
  have F1 := Lib.hid f1
  have F2 := Lib.hid f2
  clear c1 f1 f2 hf1 hf2
  have i1 : idP (P : Int) = true := by unfold idP; simp only [Bool.and_eq_true, decide_eq_true_eq]; omega
  have i2 : manyP (N : Int) = true := by unfold manyP; simp only [Bool.and_eq_true, decide_eq_true_eq]; omega
  have i3 : manyP (M : Int) = true := by unfold manyP; simp only [Bool.and_eq_true, decide_eq_true_eq]; omega
  have a1 := fun (W : World) (hb : Below w.heap.size w W) => alias_any s P o W (hT.below hb)
  have n1 := fun (a : Int) (W : World) (hb : Below w.heap.size w W) => find_any s N o a W (hT.below hb)
  rw [i1] at a1
  rw [i2] at n1
  by_cases hc : ckE s o true = 0
  · obtain ⟨k, hk1, hk2, hk3⟩ := first_ex (fun p => aliasN s p o) P
    replace hk2 : aliasN s k o = aliasN s P o := hk2
    have i4 : idP (k : Int) = true := by unfold idP; simp only [Bool.and_eq_true, decide_eq_true_eq]; omega
    have a2 := fun (W : World) (hb : Below w.heap.size w W) => alias_any s k o W (hT.below hb)
    have n2 := fun (a : Int) (W : World) (hb : Below w.heap.size w W) => find_any s M o a W (hT.below hb)
    have b1 := fun (W : World) (hb : Below w.heap.size w W) => book_any s l (.slice A l.length c) N o day time W (hT.below hb) ((hl.below hb).mono hb.size)
    have b2 := fun (W : World) (hb : Below w.heap.size w W) => book_any s l (.slice A l.length c) M o day time W (hT.below hb) ((hl.below hb).mono hb.size)
    have u1 : aliasA s P o = aliasN s P o := by unfold aliasA; rw [i1, if_pos hc]
    have u2 : aliasA s k o = aliasN s P o := by unfold aliasA; rw [i4, if_pos hc, hk2]
    have u3 : findV s N o (aliasN s P o) = ((k : Int), true) := by unfold findV; rw [i2, if_pos hc, Int.toNat_natCast, hk3 N (by omega)]; rfl
    have u4 : findV s M o (aliasN s P o) = ((k : Int), true) := by unfold findV; rw [i3, if_pos hc, Int.toNat_natCast, hk3 M (by omega)]; rfl
    have v1 : bookE s l N o day time = stE l day time := by unfold bookE; rw [i2, if_pos hc]
    have v2 : bookE s l M o day time = stE l day time := by unfold bookE; rw [i3, if_pos hc]
    have n1' := n1 (aliasN s P o)
    have n2' := n2 (aliasN s P o)
    rw [u1, hc] at a1
    rw [u2, i4, hc] at a2
    rw [u3, hc] at n1'
    rw [u4, i3, hc] at n2'
    rw [v1] at b1
    rw [v2] at b2
    obtain ⟨a, ha⟩ : ∃ a, aliasN s P o = a := ⟨_, rfl⟩
    rw [ha] at a1 a2 n1' n2'
    have A1 := Lib.hid a1
    have A2 := Lib.hid a2
    have N1 := Lib.hid n1'
    have N2 := Lib.hid n2'
    have w1 : decide ((k : Int) < 0) = false := decide_eq_false (by omega)
    have w2 : decide ((P : Int) < k) = false := decide_eq_false (by omega)
    have w3 : ¬ P < k := by omega
    by_cases hs : stE l day time = 0
    · rw [hs] at b1 b2
      have x1 : bookL s l N o day time = sortU (bookA s o (livK l o day time N)) := by unfold bookL; rw [v1, if_pos hs, Int.toNat_natCast]
      have x2 : bookL s l M o day time = sortU (bookA s o (livK l o day time M)) := by unfold bookL; rw [v2, if_pos hs, Int.toNat_natCast]
      rw [x1] at b1
      rw [x2] at b2
      have hsub : ∀ z, z ∈ sortU (bookA s o (livK l o day time N)) → z ∈ sortU (bookA s o (livK l o day time M)) := fun z hz => by
        rw [sortU_mem] at hz ⊢
        obtain ⟨r, hr⟩ := livK_pre l o day time h1
        unfold bookA at hz ⊢
        rw [hr, List.map_append]
        exact List.mem_append_left _ hz
      have m1 : (sortU (bookA s o (livK l o day time N))).length ≤ 12 := by have := sortU_len (bookA s o (livK l o day time N)); have h5 := livK_len l o day time N; unfold bookA at this ⊢; rw [List.length_map] at this; omega
      have m2 : (sortU (bookA s o (livK l o day time M))).length ≤ 12 := by have := sortU_len (bookA s o (livK l o day time M)); have h5 := livK_len l o day time M; unfold bookA at this ⊢; rw [List.length_map] at this; omega
      obtain ⟨XA, hXA⟩ : ∃ L, sortU (bookA s o (livK l o day time N)) = L := ⟨_, rfl⟩
      obtain ⟨XB, hXB⟩ : ∃ L, sortU (bookA s o (livK l o day time M)) = L := ⟨_, rfl⟩
      rw [hXA] at b1 hsub m1
      rw [hXB] at b2 hsub m2
      have B1 := Lib.hid b1
      have B2 := Lib.hid b2
      have HSU := Lib.hid hsub
      clear a1 a2 n1 n1' n2 n2' b1 b2 hsub hXA hXB x1 x2 v1 v2 u1 u2 u3 u4 ha hs hc hk1 hk2 hk3 i1 i2 i3 i4 hT hl h1 h2 h3
      go_enter Tryd.func6, Tryd.ntmps6
      go_wp2_with (first
        | (go_at_call 7; (with_reducible refine (C1.out).mono ?_); rintro e X ⟨rfl, hB⟩)
        | (go_at_call 13; (with_reducible refine (F1.out _).mono ?_); rintro e Y ⟨rfl, rfl⟩)
        | (go_at_call 13; (with_reducible refine (F2.out _).mono ?_); rintro e Y ⟨rfl, rfl⟩)
        | (go_at_call 8; (with_reducible refine (A1.out _ hB).mono ?_); rintro e Z1 ⟨rfl, hb⟩; replace hB := hB.trans (hb.mono hB.size); clear hb)
        | (go_at_call 18; (with_reducible refine (N1.out _ hB).mono ?_); rintro e Z3 ⟨rfl, hb⟩; replace hB := hB.trans (hb.mono hB.size); clear hb)
        | (go_at_call 8; (with_reducible refine (A2.out _ hB).mono ?_); rintro e Z2 ⟨rfl, hb⟩; replace hB := hB.trans (hb.mono hB.size); clear hb)
        | (go_at_call 18; (with_reducible refine (N2.out _ hB).mono ?_); rintro e Z4 ⟨rfl, hb⟩; replace hB := hB.trans (hb.mono hB.size); clear hb)
        | (go_at_call 14; (with_reducible refine (B1.out _ hB).mono ?_); rintro e Z5 ⟨x1, rfl, hx1, hb⟩; replace hB := hB.trans (hb.mono hB.size); clear hb)
        | (go_at_call 14; (with_reducible refine (B2.out _ hB).mono ?_); rintro e Z6 ⟨x2, rfl, hx2, hb6⟩; replace hB := hB.trans (hb6.mono hB.size)))
      have HX1 := Lib.hid ((hx1.below hb6).mono hb6.size)
      have HX2 := Lib.hid hx2
      obtain ⟨_, D1, d1, rfl, _⟩ := hx1
      obtain ⟨_, D2, d2, rfl, _⟩ := hx2
      clear hb6 A1 A2 N1 N2 B1 B2 C1 F1 F2 g3 g4 g5 g6 w1 w2 w3 t3 t4 t6
      go_loopg [31] XA.length (fun g iv wr => Below w.heap.size w wr ∧ Below Z6.heap.size Z6 wr ∧ ∃ n : Nat, iv = .int .i64 n ∧ n + g = XA.length)
      case atStart => exact ⟨hB, Below.refl _ _, 0, rfl, by omega⟩
      case round =>
        obtain ⟨hBr, hZr, n, rfl, hng⟩ := hrel
        by_cases hlt : n < XA.length
        · have hmem : XA.getD n default ∈ XB := HSU.out _ (by rw [List.getD_eq_getElem?_getD, List.getElem?_eq_getElem hlt]; exact List.getElem_mem hlt)
          obtain ⟨xn, hxn⟩ : ∃ x, XA.getD n default = x := ⟨_, rfl⟩
          rw [hxn] at hmem
          have HM := Lib.hid hmem
          have HXN := Lib.hid hxn
          obtain ⟨wo, rfl⟩ : ∃ wo : World, wo = wr := ⟨_, rfl⟩
          obtain ⟨G0, rfl⟩ : ∃ G0 : Nat, G0 = gk := ⟨_, rfl⟩
          have HG := Lib.hid hng
          clear hmem hxn hng
          go_wp2
          go_loopg [32, 33] XB.length (fun g mv iv wr => Below w.heap.size w wr ∧ Below Z6.heap.size Z6 wr ∧ ∃ k : Nat, iv = .int .i64 k ∧ k + g = XB.length ∧ mv = .bool (decide (xn ∈ XB.take k)))
          case atStart => exact ⟨hBr, hZr, 0, rfl, by omega, by simp⟩
          case round =>
            obtain ⟨hBi, hZi, k2, rfl, hkg, rfl⟩ := hrel
            by_cases hlk : k2 < XB.length
            · have hts : decide (xn ∈ XB.take (k2 + 1)) = (decide (xn ∈ XB.take k2) || decide (xn = XB.getD k2 default)) := by
                have e : XB.take (k2 + 1) = XB.take k2 ++ [XB.getD k2 default] := by rw [List.take_add_one, List.getD_eq_getElem?_getD, List.getElem?_eq_getElem hlk]; rfl
                rw [e, Bool.eq_iff_iff]
                simp only [decide_eq_true_eq, Bool.or_eq_true, List.mem_append, List.mem_singleton]
              obtain ⟨_, A', c', hv1, hE⟩ := HX1.out.below hZi
              obtain ⟨b1, o1, rfl, hb1, hE⟩ := hE (by omega)
              cases hv1
              obtain ⟨_, A3, c3, hv2, hE2⟩ := HX2.out.below hZi
              obtain ⟨b2, o2, rfl, hb2, hE2⟩ := hE2 (by omega)
              cases hv2
              have d1 := hE.int hlt
              have d2 := hE2.int hlk
              rw [HXN.out] at d1
              obtain ⟨yk, hyk⟩ : ∃ y, XB.getD k2 default = y := ⟨_, rfl⟩
              rw [hyk] at d2 hts
              have HTS := Lib.hid hts
              have s2 : (0 : Int) ≤ (n : Int) := by omega
              have s3 : ((n : Int)).toNat = n := by omega
              have s4 : (n : Int) < XA.length := by omega
              have s5 : (0 : Int) ≤ (k2 : Int) := by omega
              have s6 : ((k2 : Int)).toNat = k2 := by omega
              have s7 : (k2 : Int) < XB.length := by omega
              clear hts hyk hE hE2
              obtain ⟨mt, hmt⟩ : ∃ b, decide (xn ∈ XB.take k2) = b := ⟨_, rfl⟩
              rw [hmt] at HTS ⊢
              clear hmt
              cases mt with
              | true =>
                go_wp2
                go_quiet (fail)
                clear s2 s3 s4 s5 s6 s7
                go_wp2
                go_roundg (gk - 1)
                case measure => omega
                case rel => exact ⟨by first | exact hBi | exact below_drewN hBi _, by first | exact hZi | exact below_drewN hZi _, k2 + 1, by go_num, by omega, by rw [HTS.out]; rfl⟩
              | false =>
                have hts2 := HTS.out
                rw [Bool.false_or] at hts2
                have HT2 := Lib.hid hts2
                clear hts2
                obtain ⟨eq, heq⟩ : ∃ b, (xn == yk) = b := ⟨_, rfl⟩
                have heq2 : decide (xn = yk) = eq := heq
                go_wp2
                go_quiet (fail)
                clear s2 s3 s4 s5 s6 s7
                go_wp2
                go_roundg (gk - 1)
                case measure => omega
                case rel => exact ⟨by first | exact hBi | exact below_drewN hBi _, by first | exact hZi | exact below_drewN hZi _, k2 + 1, by go_num, by omega, by rw [HT2.out, heq2]⟩
            · obtain rfl : k2 = XB.length := by omega
              have hmt : decide (xn ∈ XB.take XB.length) = true := by rw [List.take_length]; exact decide_eq_true HM.out
              rw [hmt]
              clear hmt
              have hg2 := HG.out
              go_wp2
              go_roundg (G0 - 1)
              case measure => omega
              case rel => exact ⟨hBi, hZi, n + 1, by go_num, by omega⟩
        · go_wp2
          go_ret
          exact ⟨rfl, hBr⟩
    · obtain ⟨E, hE⟩ : ∃ E, stE l day time = E := ⟨_, rfl⟩
      rw [hE] at b1 b2 hs
      have B1 := Lib.hid b1
      have B2 := Lib.hid b2
      have z1 : (E != 0) = true := bne_iff_ne.2 hs
      have z2 : (E == E) = true := beq_self_eq_true E
      clear a1 a2 n1 n1' n2 n2' b1 b2 v1 v2 u1 u2 u3 u4 ha hs hc hk1 hk2 hk3 i1 i2 i3 i4 hT hl h1 h2 h3 hE
      go_enter Tryd.func6, Tryd.ntmps6
      go_wp2_with (first
        | (go_at_call 7; (with_reducible refine (C1.out).mono ?_); rintro e X ⟨rfl, hB⟩)
        | (go_at_call 13; (with_reducible refine (F1.out _).mono ?_); rintro e Y ⟨rfl, rfl⟩)
        | (go_at_call 13; (with_reducible refine (F2.out _).mono ?_); rintro e Y ⟨rfl, rfl⟩)
        | (go_at_call 8; (with_reducible refine (A1.out _ hB).mono ?_); rintro e Z1 ⟨rfl, hb⟩; replace hB := hB.trans (hb.mono hB.size); clear hb)
        | (go_at_call 18; (with_reducible refine (N1.out _ hB).mono ?_); rintro e Z3 ⟨rfl, hb⟩; replace hB := hB.trans (hb.mono hB.size); clear hb)
        | (go_at_call 8; (with_reducible refine (A2.out _ hB).mono ?_); rintro e Z2 ⟨rfl, hb⟩; replace hB := hB.trans (hb.mono hB.size); clear hb)
        | (go_at_call 18; (with_reducible refine (N2.out _ hB).mono ?_); rintro e Z4 ⟨rfl, hb⟩; replace hB := hB.trans (hb.mono hB.size); clear hb)
        | (go_at_call 14; (with_reducible refine (B1.out _ hB).mono ?_); rintro e Z5 ⟨x1, rfl, hx1, hb⟩; replace hB := hB.trans (hb.mono hB.size); clear hb)
        | (go_at_call 14; (with_reducible refine (B2.out _ hB).mono ?_); rintro e Z6 ⟨x2, rfl, hx2, hb6⟩; replace hB := hB.trans (hb6.mono hB.size)))
      go_ret
      exact ⟨rfl, hB⟩
  · have u1 : aliasA s P o = 0 := by unfold aliasA; rw [i1, if_neg hc]
    have n1' := n1 0
    rw [u1] at a1
    obtain ⟨C, hC⟩ : ∃ C, ckE s o true = C := ⟨_, rfl⟩
    obtain ⟨V, hV⟩ : ∃ V, findV s N o 0 = V := ⟨_, rfl⟩
    rw [hC] at a1 n1' hc
    rw [hV] at n1'
    have A1 := Lib.hid a1
    have N1 := Lib.hid n1'
    have z1 : (C != 0) = true := bne_iff_ne.2 hc
    clear a1 n1 n1' u1 hc hC hV i1 i2 i3 hT hl h1 h2 h3
    go_enter Tryd.func6, Tryd.ntmps6
    go_wp2_with (first
      | (go_at_call 7; (with_reducible refine (C1.out).mono ?_); rintro e X ⟨rfl, hB⟩)
      | (go_at_call 13; (with_reducible refine (F1.out _).mono ?_); rintro e Y ⟨rfl, rfl⟩)
      | (go_at_call 13; (with_reducible refine (F2.out _).mono ?_); rintro e Y ⟨rfl, rfl⟩)
      | (go_at_call 8; (with_reducible refine (A1.out _ hB).mono ?_); rintro e Z1 ⟨rfl, hb⟩; replace hB := hB.trans (hb.mono hB.size); clear hb)
      | (go_at_call 18; (with_reducible refine (N1.out _ hB).mono ?_); rintro e Z3 ⟨rfl, hb⟩; replace hB := hB.trans (hb.mono hB.size); clear hb))
    go_ret
    exact ⟨rfl, hB⟩
theorem aliasesFound_walk (s : Int) (l : List En) (v : Value) (person people more o day time : Int) (w : World) (hT : Tab w) (hz : 1 < w.heap.size ∧ 0 < w.heap.size) (h1 : SlE w w.heap.size v l)
    (_ : (Lit.int .i64 s).wf = true) (_ : True) (_ : (Lit.int .i64 person).wf = true) (_ : (Lit.int .i64 people).wf = true) (_ : (Lit.int .i64 more).wf = true) (_ : (Lit.int .i64 o).wf = true) (_ : (Lit.int .i64 day).wf = true) (_ : (Lit.int .i64 time).wf = true) :
    Calls Tryd.prog 6 #[.int .i64 s, v, .int .i64 person, .int .i64 people, .int .i64 more, .int .i64 o, .int .i64 day, .int .i64 time] w fun e w' => e = .returned (.bool true) ∧ Below w.heap.size w w' := by
  have g1 := h1
  obtain ⟨_, A, c, rfl, _⟩ := h1
  by_cases h : fewB l.length people = true ∧ fewB l.length more = true ∧ people ≤ more ∧ more ≤ 12 ∧ 0 ≤ person ∧ person < people
  · obtain ⟨k1, k2, k3, k4, k5, k6⟩ := h
    obtain ⟨P, rfl⟩ : ∃ P : Nat, person = (P : Int) := ⟨person.toNat, by omega⟩
    obtain ⟨N, rfl⟩ : ∃ N : Nat, people = (N : Int) := ⟨people.toNat, by omega⟩
    obtain ⟨M, rfl⟩ : ∃ M : Nat, more = (M : Int) := ⟨more.toNat, by omega⟩
    exact aliasesFound_late s l A c P N M o day time w ⟨hT, hz⟩ g1 k1 k2 (by omega) (by omega) (by omega)
  · exact aliasesFound_early s A _ c person people more o day time w ⟨hT, hz⟩ h
end Go.Proofs.YthckledagggoiaaDoor
