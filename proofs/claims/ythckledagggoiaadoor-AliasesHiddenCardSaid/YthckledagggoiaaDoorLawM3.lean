import Derived.Test.YthckledagggoiaaDoorAsL2
set_option linter.unusedSimpArgs false
set_option linter.unusedVariables false
namespace Go.Proofs.YthckledagggoiaaDoor
open Go.RowKit Go.MapKept Go.Shelf Fk Sha
/-! AliasesHidden -/
theorem slG_belowTo {α : Type} [Inhabited α] {m : Nat} {enc : α → List Value} {w w' : World} {B0 n : Nat} {v : Value} {l : List α} (h : SlG m enc w B0 v l) (hb : Below n w w') (hn : B0 ≤ n) (hs : B0 ≤ w'.heap.size) : SlG m enc w' w'.heap.size v l := (h.below (hb.mono hn)).mono hs
set_option maxRecDepth 100000 in
set_option maxHeartbeats 4000000 in
theorem aliasesHidden_early (s : Int) (A A2 : Option Addr) (q c q2 c2 : Nat) (n o day time other later : Int) (w : World) (hT : TabOK w) (h : fewB q n = false ∨ fewB q2 n = false ∨ 12 < n) :
    Calls Tryd.prog 5 #[.int .i64 s, .slice A q c, .slice A2 q2 c2, .int .i64 n, .int .i64 o, .int .i64 day, .int .i64 time, .int .i64 other, .int .i64 later] w fun e w' => e = .returned (.bool true) ∧ Below w.heap.size w w' := by
  have c1 := sane35_any w hT
  have f1 := fun W => few35_any A q c n W
  have f2 := fun W => few35_any A2 q2 c2 n W
  obtain ⟨r1, hr1⟩ : ∃ r, fewB q n = r := ⟨_, rfl⟩
  obtain ⟨r2, hr2⟩ : ∃ r, fewB q2 n = r := ⟨_, rfl⟩
  rw [hr1] at f1 h
  rw [hr2] at f2 h
  have C1 := Lib.hid c1
  have F1 := Lib.hid f1
  have F2 := Lib.hid f2
  clear c1 f1 f2 hr1 hr2 hT
  cases r1 with
  | false =>
    clear h
    go_enter Tryd.func5, Tryd.ntmps5
    go_wp2_with (first
      | (go_at_call 7; (with_reducible refine (C1.out).mono ?_); rintro e X ⟨rfl, hB⟩)
      | (go_at_call 13; (with_reducible refine (F1.out _).mono ?_); rintro e Y ⟨rfl, rfl⟩))
    go_ret
    exact ⟨rfl, hB⟩
  | true =>
    cases r2 with
    | false =>
      clear h
      go_enter Tryd.func5, Tryd.ntmps5
      go_wp2_with (first
        | (go_at_call 7; (with_reducible refine (C1.out).mono ?_); rintro e X ⟨rfl, hB⟩)
        | (go_at_call 13; (with_reducible refine (F1.out _).mono ?_); rintro e Y ⟨rfl, rfl⟩)
        | (go_at_call 13; (with_reducible refine (F2.out _).mono ?_); rintro e Y ⟨rfl, rfl⟩))
      go_ret
      exact ⟨rfl, hB⟩
    | true =>
      have hn : 12 < n := by rcases h with h | h | h; cases h; cases h; exact h
      have g : decide (12 < n) = true := decide_eq_true hn
      clear h hn
      go_enter Tryd.func5, Tryd.ntmps5
      go_wp2_with (first
        | (go_at_call 7; (with_reducible refine (C1.out).mono ?_); rintro e X ⟨rfl, hB⟩)
        | (go_at_call 13; (with_reducible refine (F1.out _).mono ?_); rintro e Y ⟨rfl, rfl⟩)
        | (go_at_call 13; (with_reducible refine (F2.out _).mono ?_); rintro e Y ⟨rfl, rfl⟩))
      go_ret
      exact ⟨rfl, hB⟩
theorem book_err {s : Int} {l : List En} {n o day time : Int} : stE l day time = 0 ∨ bookE s l n o day time ≠ 0 := by
  unfold bookE
  by_cases h : stE l day time = 0
  · exact .inl h
  · refine .inr ?_
    split
    · exact h
    · assumption
set_option maxRecDepth 100000 in
set_option maxHeartbeats 4000000 in
theorem aliasesHidden_late (s : Int) (l m : List En) (A A2 : Option Addr) (c c2 : Nat) (n o day time other later : Int) (w : World) (hT : TabOK w) (h1 : SlE w w.heap.size (.slice A l.length c) l) (h2 : SlE w w.heap.size (.slice A2 m.length c2) m)
    (hf1 : fewB l.length n = true) (hf2 : fewB m.length n = true) (hn : n ≤ 12) :
    Calls Tryd.prog 5 #[.int .i64 s, .slice A l.length c, .slice A2 m.length c2, .int .i64 n, .int .i64 o, .int .i64 day, .int .i64 time, .int .i64 other, .int .i64 later] w fun e w' => e = .returned (.bool true) ∧ Below w.heap.size w w' := by
  have c1 := sane35_any w hT
  have f1 := fun W => few35_any A l.length c n W
  have f2 := fun W => few35_any A2 m.length c2 n W
  rw [hf1] at f1
  rw [hf2] at f2
  have g0 : decide (12 < n) = false := decide_eq_false (by omega)
  have C1 := Lib.hid c1
  have F1 := Lib.hid f1
  have F2 := Lib.hid f2
  clear c1 f1 f2 hf1 hf2
  have s1 := fun (W : World) (hb : Below w.heap.size w W) => stand_any l (.slice A l.length c) day time W ((h1.below hb).mono hb.size)
  have s2 := fun (W : World) (hb : Below w.heap.size w W) => stand_any m (.slice A2 m.length c2) other later W ((h2.below hb).mono hb.size)
  have b1 := fun (W : World) (hb : Below w.heap.size w W) => book_any s l (.slice A l.length c) n o day time W (hT.below hb) ((h1.below hb).mono hb.size)
  have b2 := fun (W : World) (hb : Below w.heap.size w W) => book_any s m (.slice A2 m.length c2) n o other later W (hT.below hb) ((h2.below hb).mono hb.size)
  by_cases hall : stE l day time = 0 ∧ stE m other later = 0 ∧ bookE s l n o day time = 0 ∧ bookE s m n o other later = 0
  · obtain ⟨e1, e2, e3, e4⟩ := hall
    have hck : ckE s o (manyP n) = 0 := by
      unfold bookE at e3
      by_cases hc : ckE s o (manyP n) = 0
      · exact hc
      · rw [if_neg hc] at e3; exact absurd e3 hc
    obtain ⟨_, k2, _⟩ := ckE_0 hck
    unfold manyP at k2
    simp only [Bool.and_eq_true, decide_eq_true_eq] at k2
    obtain ⟨N, rfl⟩ : ∃ N : Nat, n = (N : Int) := ⟨n.toNat, by omega⟩
    have l1 := fun (W : World) (hb : Below w.heap.size w W) => lawliving_any l (.slice A l.length c) N o day time W (by omega) ((h1.below hb).mono hb.size) e1
    have l2 := fun (W : World) (hb : Below w.heap.size w W) => lawliving_any m (.slice A2 m.length c2) N o other later W (by omega) ((h2.below hb).mono hb.size) e2
    have k1 : bookL s l N o day time = sortU (bookA s o (livK l o day time N)) := by unfold bookL; rw [if_pos e3, Int.toNat_natCast]
    have k2 : bookL s m N o other later = sortU (bookA s o (livK m o other later N)) := by unfold bookL; rw [if_pos e4, Int.toNat_natCast]
    rw [e1] at s1
    rw [e2] at s2
    rw [e3, k1] at b1
    rw [e4, k2] at b2
    have n1 := livK_len l o day time N
    have n2 := livK_len m o other later N
    obtain ⟨LA, hLA⟩ : ∃ L, livK l o day time N = L := ⟨_, rfl⟩
    obtain ⟨LB, hLB⟩ : ∃ L, livK m o other later N = L := ⟨_, rfl⟩
    rw [hLA] at l1 b1 n1
    rw [hLB] at l2 b2 n2
    have m1 : (sortU (bookA s o LA)).length ≤ 1024 := by have := sortU_len (bookA s o LA); unfold bookA at this ⊢; rw [List.length_map] at this; omega
    have m2 : (sortU (bookA s o LB)).length ≤ 1024 := by have := sortU_len (bookA s o LB); unfold bookA at this ⊢; rw [List.length_map] at this; omega
    have hsame : LA = LB → sortU (bookA s o LA) = sortU (bookA s o LB) := fun h => by rw [h]
    obtain ⟨XA, hXA⟩ : ∃ L, sortU (bookA s o LA) = L := ⟨_, rfl⟩
    obtain ⟨XB, hXB⟩ : ∃ L, sortU (bookA s o LB) = L := ⟨_, rfl⟩
    rw [hXA] at b1 m1 hsame
    rw [hXB] at b2 m2 hsame
    have S1 := Lib.hid s1
    have S2 := Lib.hid s2
    have B1 := Lib.hid b1
    have B2 := Lib.hid b2
    have L1 := Lib.hid l1
    have L2 := Lib.hid l2
    have N1 := Lib.hid n1
    have N2 := Lib.hid n2
    have M1 := Lib.hid m1
    have M2 := Lib.hid m2
    have HSA := Lib.hid hsame
    have HN := Lib.hid hn
    clear s1 s2 b1 b2 l1 l2 n1 n2 m1 m2 hsame hXA hXB hLA hLB k1 k2 e1 e2 e3 e4 hck hT h1 h2 hn
    by_cases hab : LA = LB
    · have hxy := HSA.out hab
      subst hab hxy
      go_enter Tryd.func5, Tryd.ntmps5
      go_wp2_with (first
        | (go_at_call 7; (with_reducible refine (C1.out).mono ?_); rintro e X ⟨rfl, hB⟩)
        | (go_at_call 13; (with_reducible refine (F1.out _).mono ?_); rintro e Y ⟨rfl, rfl⟩)
        | (go_at_call 13; (with_reducible refine (F2.out _).mono ?_); rintro e Y ⟨rfl, rfl⟩)
        | (go_at_call 16; (with_reducible refine (S1.out _ hB).mono ?_); rintro e Z1 ⟨⟨y1, rfl, _⟩, hb⟩; replace hB := hB.trans (hb.mono hB.size); clear hb)
        | (go_at_call 16; (with_reducible refine (S2.out _ hB).mono ?_); rintro e Z2 ⟨⟨y2, rfl, _⟩, hb⟩; replace hB := hB.trans (hb.mono hB.size); clear hb)
        | (go_at_call 14; (with_reducible refine (B1.out _ hB).mono ?_); rintro e Z3 ⟨x1, rfl, hx1, hb⟩; replace hB := hB.trans (hb.mono hB.size); clear hb)
        | (go_at_call 14; (with_reducible refine (B2.out _ hB).mono ?_); rintro e Z4 ⟨x2, rfl, hx2, hb4⟩; replace hB := hB.trans (hb4.mono hB.size))
        | (go_at_call 15; (with_reducible refine (L1.out _ hB).mono ?_); rintro e Z5 ⟨u1, rfl, hu1, hb5⟩; replace hB := hB.trans (hb5.mono hB.size))
        | (go_at_call 15; (with_reducible refine (L2.out _ hB).mono ?_); rintro e Z6 ⟨u2, rfl, hu2, hb6⟩; replace hB := hB.trans (hb6.mono hB.size))
        | (go_at_call 17; (with_reducible refine (same35_any LA LA u1 u2 _ ((hu1.below hb6).mono hb6.size) hu2 (by have := N1.out; have := HN.out; omega) (by have := N2.out; have := HN.out; omega)).mono ?_); rintro e Z7 ⟨rfl, hb7⟩; rw [decide_eq_true rfl]; replace hB := hB.trans (hb7.mono hB.size))
        | (go_at_call 17; (with_reducible refine (same35_any XA XA x1 x2 _ (slG_belowTo (hx1.below hb4) ((hb5.trans (hb6.mono hb5.size)).trans (hb7.mono (Nat.le_trans hb5.size hb6.size))) hb4.size (Nat.le_trans hb4.size (Nat.le_trans hb5.size (Nat.le_trans hb6.size hb7.size)))) (slG_belowTo hx2 ((hb5.trans (hb6.mono hb5.size)).trans (hb7.mono (Nat.le_trans hb5.size hb6.size))) (Nat.le_refl _) (Nat.le_trans hb5.size (Nat.le_trans hb6.size hb7.size))) (by have := M1.out; omega) (by have := M1.out; omega)).mono ?_); rintro e Z8 ⟨rfl, hb8⟩; rw [decide_eq_true rfl]; replace hB := hB.trans (hb8.mono hB.size)))
      go_ret
      exact ⟨rfl, hB⟩
    · have gab : decide (LA = LB) = false := decide_eq_false hab
      clear hab
      go_enter Tryd.func5, Tryd.ntmps5
      go_wp2_with (first
        | (go_at_call 7; (with_reducible refine (C1.out).mono ?_); rintro e X ⟨rfl, hB⟩)
        | (go_at_call 13; (with_reducible refine (F1.out _).mono ?_); rintro e Y ⟨rfl, rfl⟩)
        | (go_at_call 13; (with_reducible refine (F2.out _).mono ?_); rintro e Y ⟨rfl, rfl⟩)
        | (go_at_call 16; (with_reducible refine (S1.out _ hB).mono ?_); rintro e Z1 ⟨⟨y1, rfl, _⟩, hb⟩; replace hB := hB.trans (hb.mono hB.size); clear hb)
        | (go_at_call 16; (with_reducible refine (S2.out _ hB).mono ?_); rintro e Z2 ⟨⟨y2, rfl, _⟩, hb⟩; replace hB := hB.trans (hb.mono hB.size); clear hb)
        | (go_at_call 14; (with_reducible refine (B1.out _ hB).mono ?_); rintro e Z3 ⟨x1, rfl, hx1, hb⟩; replace hB := hB.trans (hb.mono hB.size); clear hb)
        | (go_at_call 14; (with_reducible refine (B2.out _ hB).mono ?_); rintro e Z4 ⟨x2, rfl, hx2, hb4⟩; replace hB := hB.trans (hb4.mono hB.size))
        | (go_at_call 15; (with_reducible refine (L1.out _ hB).mono ?_); rintro e Z5 ⟨u1, rfl, hu1, hb5⟩; replace hB := hB.trans (hb5.mono hB.size))
        | (go_at_call 15; (with_reducible refine (L2.out _ hB).mono ?_); rintro e Z6 ⟨u2, rfl, hu2, hb6⟩; replace hB := hB.trans (hb6.mono hB.size))
        | (go_at_call 17; (with_reducible refine (same35_any LA LB u1 u2 _ ((hu1.below hb6).mono hb6.size) hu2 (by have := N1.out; have := HN.out; omega) (by have := N2.out; have := HN.out; omega)).mono ?_); rintro e Z7 ⟨rfl, hb7⟩; rw [gab]; replace hB := hB.trans (hb7.mono hB.size)))
      go_ret
      exact ⟨rfl, hB⟩
  · have p1 := book_err (s := s) (l := l) (n := n) (o := o) (day := day) (time := time)
    have p2 := book_err (s := s) (l := m) (n := n) (o := o) (day := other) (time := later)
    obtain ⟨e1, he1⟩ : ∃ e, stE l day time = e := ⟨_, rfl⟩
    obtain ⟨e2, he2⟩ : ∃ e, stE m other later = e := ⟨_, rfl⟩
    obtain ⟨e3, he3⟩ : ∃ e, bookE s l n o day time = e := ⟨_, rfl⟩
    obtain ⟨e4, he4⟩ : ∃ e, bookE s m n o other later = e := ⟨_, rfl⟩
    rw [he1] at s1 p1 hall
    rw [he2] at s2 p2 hall
    rw [he3] at b1 p1 hall
    rw [he4] at b2 p2 hall
    have S1 := Lib.hid s1
    have S2 := Lib.hid s2
    have B1 := Lib.hid b1
    have B2 := Lib.hid b2
    clear s1 s2 b1 b2 he1 he2 he3 he4 hT h1 h2 hn
    by_cases z1 : e1 = 0
    · subst z1
      clear p1
      by_cases z2 : e2 = 0
      · subst z2
        clear p2
        by_cases z3 : e3 = 0
        · subst z3
          have g4 : (e4 != 0) = true := bne_iff_ne.2 (fun h => hall ⟨rfl, rfl, rfl, h⟩)
          clear hall
          go_enter Tryd.func5, Tryd.ntmps5
          go_wp2_with (first
            | (go_at_call 7; (with_reducible refine (C1.out).mono ?_); rintro e X ⟨rfl, hB⟩)
            | (go_at_call 13; (with_reducible refine (F1.out _).mono ?_); rintro e Y ⟨rfl, rfl⟩)
            | (go_at_call 13; (with_reducible refine (F2.out _).mono ?_); rintro e Y ⟨rfl, rfl⟩)
            | (go_at_call 16; (with_reducible refine (S1.out _ hB).mono ?_); rintro e Z1 ⟨⟨y1, rfl, _⟩, hb⟩; replace hB := hB.trans (hb.mono hB.size); clear hb)
            | (go_at_call 16; (with_reducible refine (S2.out _ hB).mono ?_); rintro e Z2 ⟨⟨y2, rfl, _⟩, hb⟩; replace hB := hB.trans (hb.mono hB.size); clear hb)
            | (go_at_call 14; (with_reducible refine (B1.out _ hB).mono ?_); rintro e Z3 ⟨x1, rfl, hx1, hb⟩; replace hB := hB.trans (hb.mono hB.size); clear hb)
            | (go_at_call 14; (with_reducible refine (B2.out _ hB).mono ?_); rintro e Z4 ⟨x2, rfl, hx2, hb4⟩; replace hB := hB.trans (hb4.mono hB.size)))
          go_ret
          exact ⟨rfl, hB⟩
        · have g3 : (e3 != 0) = true := bne_iff_ne.2 z3
          clear hall z3
          go_enter Tryd.func5, Tryd.ntmps5
          go_wp2_with (first
            | (go_at_call 7; (with_reducible refine (C1.out).mono ?_); rintro e X ⟨rfl, hB⟩)
            | (go_at_call 13; (with_reducible refine (F1.out _).mono ?_); rintro e Y ⟨rfl, rfl⟩)
            | (go_at_call 13; (with_reducible refine (F2.out _).mono ?_); rintro e Y ⟨rfl, rfl⟩)
            | (go_at_call 16; (with_reducible refine (S1.out _ hB).mono ?_); rintro e Z1 ⟨⟨y1, rfl, _⟩, hb⟩; replace hB := hB.trans (hb.mono hB.size); clear hb)
            | (go_at_call 16; (with_reducible refine (S2.out _ hB).mono ?_); rintro e Z2 ⟨⟨y2, rfl, _⟩, hb⟩; replace hB := hB.trans (hb.mono hB.size); clear hb)
            | (go_at_call 14; (with_reducible refine (B1.out _ hB).mono ?_); rintro e Z3 ⟨x1, rfl, hx1, hb⟩; replace hB := hB.trans (hb.mono hB.size); clear hb)
            | (go_at_call 14; (with_reducible refine (B2.out _ hB).mono ?_); rintro e Z4 ⟨x2, rfl, hx2, hb4⟩; replace hB := hB.trans (hb4.mono hB.size)))
          go_ret
          exact ⟨rfl, hB⟩
      · have g2 : (e2 != 0) = true := bne_iff_ne.2 z2
        have g2' : (e2 == 0) = false := beq_eq_false_iff_ne.2 z2
        have g4 : (e4 != 0) = true := bne_iff_ne.2 (p2.resolve_left z2)
        clear hall z2 p2
        go_enter Tryd.func5, Tryd.ntmps5
        go_wp2_with (first
          | (go_at_call 7; (with_reducible refine (C1.out).mono ?_); rintro e X ⟨rfl, hB⟩)
          | (go_at_call 13; (with_reducible refine (F1.out _).mono ?_); rintro e Y ⟨rfl, rfl⟩)
          | (go_at_call 13; (with_reducible refine (F2.out _).mono ?_); rintro e Y ⟨rfl, rfl⟩)
          | (go_at_call 16; (with_reducible refine (S1.out _ hB).mono ?_); rintro e Z1 ⟨⟨y1, rfl, _⟩, hb⟩; replace hB := hB.trans (hb.mono hB.size); clear hb)
          | (go_at_call 16; (with_reducible refine (S2.out _ hB).mono ?_); rintro e Z2 ⟨⟨y2, rfl, _⟩, hb⟩; replace hB := hB.trans (hb.mono hB.size); clear hb)
          | (go_at_call 14; (with_reducible refine (B1.out _ hB).mono ?_); rintro e Z3 ⟨x1, rfl, hx1, hb⟩; replace hB := hB.trans (hb.mono hB.size); clear hb)
          | (go_at_call 14; (with_reducible refine (B2.out _ hB).mono ?_); rintro e Z4 ⟨x2, rfl, hx2, hb4⟩; replace hB := hB.trans (hb4.mono hB.size)))
        go_ret
        exact ⟨rfl, hB⟩
    · have g1 : (e1 != 0) = true := bne_iff_ne.2 z1
      have g1' : (e1 == 0) = false := beq_eq_false_iff_ne.2 z1
      have g3 : (e3 != 0) = true := bne_iff_ne.2 (p1.resolve_left z1)
      clear hall z1 p1
      by_cases z2 : e2 = 0
      · subst z2
        clear p2
        go_enter Tryd.func5, Tryd.ntmps5
        go_wp2_with (first
          | (go_at_call 7; (with_reducible refine (C1.out).mono ?_); rintro e X ⟨rfl, hB⟩)
          | (go_at_call 13; (with_reducible refine (F1.out _).mono ?_); rintro e Y ⟨rfl, rfl⟩)
          | (go_at_call 13; (with_reducible refine (F2.out _).mono ?_); rintro e Y ⟨rfl, rfl⟩)
          | (go_at_call 16; (with_reducible refine (S1.out _ hB).mono ?_); rintro e Z1 ⟨⟨y1, rfl, _⟩, hb⟩; replace hB := hB.trans (hb.mono hB.size); clear hb)
          | (go_at_call 16; (with_reducible refine (S2.out _ hB).mono ?_); rintro e Z2 ⟨⟨y2, rfl, _⟩, hb⟩; replace hB := hB.trans (hb.mono hB.size); clear hb)
          | (go_at_call 14; (with_reducible refine (B1.out _ hB).mono ?_); rintro e Z3 ⟨x1, rfl, hx1, hb⟩; replace hB := hB.trans (hb.mono hB.size); clear hb)
          | (go_at_call 14; (with_reducible refine (B2.out _ hB).mono ?_); rintro e Z4 ⟨x2, rfl, hx2, hb4⟩; replace hB := hB.trans (hb4.mono hB.size)))
        go_ret
        exact ⟨rfl, hB⟩
      · have g2 : (e2 != 0) = true := bne_iff_ne.2 z2
        have g2' : (e2 == 0) = false := beq_eq_false_iff_ne.2 z2
        have g4 : (e4 != 0) = true := bne_iff_ne.2 (p2.resolve_left z2)
        clear z2 p2
        go_enter Tryd.func5, Tryd.ntmps5
        go_wp2_with (first
          | (go_at_call 7; (with_reducible refine (C1.out).mono ?_); rintro e X ⟨rfl, hB⟩)
          | (go_at_call 13; (with_reducible refine (F1.out _).mono ?_); rintro e Y ⟨rfl, rfl⟩)
          | (go_at_call 13; (with_reducible refine (F2.out _).mono ?_); rintro e Y ⟨rfl, rfl⟩)
          | (go_at_call 16; (with_reducible refine (S1.out _ hB).mono ?_); rintro e Z1 ⟨⟨y1, rfl, _⟩, hb⟩; replace hB := hB.trans (hb.mono hB.size); clear hb)
          | (go_at_call 16; (with_reducible refine (S2.out _ hB).mono ?_); rintro e Z2 ⟨⟨y2, rfl, _⟩, hb⟩; replace hB := hB.trans (hb.mono hB.size); clear hb)
          | (go_at_call 14; (with_reducible refine (B1.out _ hB).mono ?_); rintro e Z3 ⟨x1, rfl, hx1, hb⟩; replace hB := hB.trans (hb.mono hB.size); clear hb)
          | (go_at_call 14; (with_reducible refine (B2.out _ hB).mono ?_); rintro e Z4 ⟨x2, rfl, hx2, hb4⟩; replace hB := hB.trans (hb4.mono hB.size)))
        go_ret
        exact ⟨rfl, hB⟩
theorem aliasesHidden_walk (s : Int) (l : List En) (v : Value) (m : List En) (v2 : Value) (n o day time other later : Int) (w : World) (hT : Tab w) (hz : 1 < w.heap.size ∧ 0 < w.heap.size) (h1 : SlE w w.heap.size v l) (h2 : SlE w w.heap.size v2 m)
    (_ : (Lit.int .i64 s).wf = true) (_ : True) (_ : True) (_ : (Lit.int .i64 n).wf = true) (_ : (Lit.int .i64 o).wf = true) (_ : (Lit.int .i64 day).wf = true) (_ : (Lit.int .i64 time).wf = true) (_ : (Lit.int .i64 other).wf = true) (_ : (Lit.int .i64 later).wf = true) :
    Calls Tryd.prog 5 #[.int .i64 s, v, v2, .int .i64 n, .int .i64 o, .int .i64 day, .int .i64 time, .int .i64 other, .int .i64 later] w fun e w' => e = .returned (.bool true) ∧ Below w.heap.size w w' := by
  have g1 := h1
  have g2 := h2
  obtain ⟨_, A, c, rfl, _⟩ := h1
  obtain ⟨_, A2, c2, rfl, _⟩ := h2
  by_cases hf1 : fewB l.length n = true
  · by_cases hf2 : fewB m.length n = true
    · by_cases hn : n ≤ 12
      · exact aliasesHidden_late s l m A A2 c c2 n o day time other later w ⟨hT, hz⟩ g1 g2 hf1 hf2 hn
      · exact aliasesHidden_early s A A2 _ c _ c2 n o day time other later w ⟨hT, hz⟩ (.inr (.inr (by omega)))
    · exact aliasesHidden_early s A A2 _ c _ c2 n o day time other later w ⟨hT, hz⟩ (.inr (.inl (by simpa using hf2)))
  · exact aliasesHidden_early s A A2 _ c _ c2 n o day time other later w ⟨hT, hz⟩ (.inl (by simpa using hf1))
end Go.Proofs.YthckledagggoiaaDoor
