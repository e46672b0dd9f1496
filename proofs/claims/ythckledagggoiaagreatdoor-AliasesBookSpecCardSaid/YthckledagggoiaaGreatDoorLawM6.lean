import Derived.Test.YthckledagggoiaaGreatDoorAr8
import Derived.Test.YthckledagggoiaaGreatDoorAsL2
set_option linter.unusedSimpArgs false
set_option linter.unusedVariables false
namespace Go.Proofs.YthckledagggoiaaGreatDoor
open Go.RowKit Go.MapKept Go.Shelf Fk Sha
/-! AliasesBookSpec -/
theorem bookL_len (s : Int) (l : List En) (n o day time : Int) : (bookL s l n o day time).length ≤ 2000 := by
  unfold bookL
  by_cases h : bookE s l n o day time = 0
  · rw [if_pos h]
    have h1 := sortU_len (bookA s o (livK l o day time n.toNat))
    have h2 := livK_len l o day time n.toNat
    have h3 : ckE s o (manyP n) = 0 := by
      unfold bookE at h
      by_cases hc : ckE s o (manyP n) = 0
      · exact hc
      · rw [if_neg hc] at h; exact absurd h hc
    obtain ⟨_, h4, _⟩ := ckE_0 h3
    unfold manyP at h4
    simp only [Bool.and_eq_true, decide_eq_true_eq] at h4
    unfold bookA at h1 ⊢
    rw [List.length_map] at h1
    omega
  · rw [if_neg h]; simp
set_option maxRecDepth 100000 in
set_option maxHeartbeats 4000000 in
theorem aliasesBookSpec_walk (s : Int) (l : List En) (v : Value) (n o day time : Int) (w : World) (hT : Tab w) (hz : 1 < w.heap.size ∧ 0 < w.heap.size) (h1 : SlE w w.heap.size v l)
    (_ : (Lit.int .i64 s).wf = true) (_ : True) (_ : (Lit.int .i64 n).wf = true) (_ : (Lit.int .i64 o).wf = true) (_ : (Lit.int .i64 day).wf = true) (_ : (Lit.int .i64 time).wf = true) :
    Calls Tryz.prog 8 #[.int .i64 s, v, .int .i64 n, .int .i64 o, .int .i64 day, .int .i64 time] w fun e w' => e = .returned (.bool true) ∧ Below w.heap.size w w' := by
  have hTT : TabOK w := ⟨hT, hz⟩
  have c1 := sane35_any w hTT
  have b1 := fun (W : World) (hb : Below w.heap.size w W) => book_any s l v n o day time W (hTT.below hb) ((h1.below hb).mono hb.size)
  have b2 := fun (W : World) (hb : Below w.heap.size w W) => r35book_any s l v n o day time W ((h1.below hb).mono hb.size)
  have hlen := bookL_len s l n o day time
  obtain ⟨_, A, c, rfl, _⟩ := h1
  have f1 := fun W => few35_any A l.length c n W
  obtain ⟨E, hE⟩ : ∃ E, bookE s l n o day time = E := ⟨_, rfl⟩
  obtain ⟨L, hL⟩ : ∃ L, bookL s l n o day time = L := ⟨_, rfl⟩
  rw [hE, hL] at b1 b2
  rw [hL] at hlen
  have C1 := Lib.hid c1
  have B1 := Lib.hid b1
  have B2 := Lib.hid b2
  have HL := Lib.hid hlen
  clear c1 b1 b2 hE hL hT hz hTT hlen
  cases hf : fewB l.length n with
  | false =>
    rw [hf] at f1
    have F1 := Lib.hid f1
    clear f1 hf
    go_enter Tryz.func8, Tryz.ntmps8
    go_wp2_with (first
      | (go_at_call 26; (with_reducible refine C1.out.mono ?_); rintro e X ⟨rfl, hB⟩)
      | (go_at_call 27; (with_reducible refine (F1.out _).mono ?_); rintro e Y ⟨rfl, rfl⟩))
    go_ret
    exact ⟨rfl, hB⟩
  | true =>
    rw [hf] at f1
    have F1 := Lib.hid f1
    clear f1 hf
    go_enter Tryz.func8, Tryz.ntmps8
    go_wp2_with (first
      | (go_at_call 26; (with_reducible refine C1.out.mono ?_); rintro e X ⟨rfl, hB⟩)
      | (go_at_call 27; (with_reducible refine (F1.out _).mono ?_); rintro e Y ⟨rfl, rfl⟩)
      | (go_at_call 30; (with_reducible refine (B1.out _ hB).mono ?_); rintro e Z1 ⟨x1, rfl, hx1, hb⟩; replace hB := hB.trans (hb.mono hB.size); clear hb)
      | (go_at_call 31; (with_reducible refine (B2.out _ hB).mono ?_); rintro e Z2 ⟨x2, rfl, hx2, hb2⟩; replace hB := hB.trans (hb2.mono hB.size))
      | (go_at_call 32; (with_reducible refine (same35_any L L x1 x2 _ ((hx1.below hb2).mono hb2.size) hx2 HL.out HL.out).mono ?_); rintro e Z3 ⟨rfl, hb3⟩; rw [decide_eq_true rfl]; replace hB := hB.trans (hb3.mono hB.size)))
    go_ret
    exact ⟨by simp, hB⟩
end Go.Proofs.YthckledagggoiaaGreatDoor
