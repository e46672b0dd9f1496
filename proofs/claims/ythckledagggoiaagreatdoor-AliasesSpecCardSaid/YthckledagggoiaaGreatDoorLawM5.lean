import Derived.Test.YthckledagggoiaaGreatDoorAsL2
import Derived.Test.YthckledagggoiaaGreatDoorAr2
set_option linter.unusedSimpArgs false
set_option linter.unusedVariables false
namespace Go.Proofs.YthckledagggoiaaGreatDoor
open Go.RowKit Go.MapKept Go.Shelf Fk Sha
/-! AliasesSpec -/
set_option maxRecDepth 100000 in
set_option maxHeartbeats 4000000 in
theorem aliasesSpec_walk (s p n o a : Int) (w : World) (hT : Tab w) (hz : 1 < w.heap.size ∧ 0 < w.heap.size) (_ : (Lit.int .i64 s).wf = true) (_ : (Lit.int .i64 p).wf = true) (_ : (Lit.int .i64 n).wf = true) (_ : (Lit.int .i64 o).wf = true) (_ : (Lit.int .i64 a).wf = true) :
    Calls Tryz.prog 7 #[.int .i64 s, .int .i64 p, .int .i64 n, .int .i64 o, .int .i64 a] w fun e w' => e = .returned (.bool true) ∧ Below w.heap.size w w' := by
  have hTT : TabOK w := ⟨hT, hz⟩
  have c1 := sane35_any w hTT
  have f1 := fun W => few35_any none 0 0 n W
  have a1 := fun (W : World) (hb : Below w.heap.size w W) => alias_any s p o W (hTT.below hb)
  have a2 := fun (W : World) => rAlias_any s p o W
  have n1 := fun (W : World) (hb : Below w.heap.size w W) => find_any s n o a W (hTT.below hb)
  have n2 := fun (W : World) => rFind_any s n o a W
  obtain ⟨A, hA⟩ : ∃ A, aliasA s p o = A := ⟨_, rfl⟩
  obtain ⟨E, hE⟩ : ∃ E, ckE s o (idP p) = E := ⟨_, rfl⟩
  obtain ⟨⟨k, b⟩, hV⟩ : ∃ V, findV s n o a = V := ⟨_, rfl⟩
  obtain ⟨G, hG⟩ : ∃ E, ckE s o (manyP n) = E := ⟨_, rfl⟩
  rw [hA, hE] at a1 a2
  rw [hV, hG] at n1 n2
  have C1 := Lib.hid c1
  have A1 := Lib.hid a1
  have A2 := Lib.hid a2
  have N1 := Lib.hid n1
  have N2 := Lib.hid n2
  clear c1 a1 a2 n1 n2 hA hE hV hG hT hz hTT
  cases hf : fewB 0 n with
  | false =>
    rw [hf] at f1
    have F1 := Lib.hid f1
    clear f1 hf
    go_enter Tryz.func7, Tryz.ntmps7
    go_wp2_with (first
      | (go_at_call 26; (with_reducible refine C1.out.mono ?_); rintro e X ⟨rfl, hB⟩)
      | (go_at_call 27; (with_reducible refine (F1.out _).mono ?_); rintro e Y ⟨rfl, rfl⟩))
    go_ret
    exact ⟨rfl, hB⟩
  | true =>
    rw [hf] at f1
    have F1 := Lib.hid f1
    clear f1 hf
    go_enter Tryz.func7, Tryz.ntmps7
    go_wp2_with (first
      | (go_at_call 26; (with_reducible refine C1.out.mono ?_); rintro e X ⟨rfl, hB⟩)
      | (go_at_call 27; (with_reducible refine (F1.out _).mono ?_); rintro e Y ⟨rfl, rfl⟩)
      | (go_at_call 13; (with_reducible refine (A1.out _ hB).mono ?_); rintro e Z1 ⟨rfl, hb⟩; replace hB := hB.trans (hb.mono hB.size); clear hb)
      | (go_at_call 28; (with_reducible refine (A2.out _).mono ?_); rintro e Z2 ⟨rfl, hb⟩; replace hB := hB.trans (hb.mono hB.size); clear hb)
      | (go_at_call 18; (with_reducible refine (N1.out _ hB).mono ?_); rintro e Z3 ⟨rfl, hb⟩; replace hB := hB.trans (hb.mono hB.size); clear hb)
      | (go_at_call 29; (with_reducible refine (N2.out _).mono ?_); rintro e Z4 ⟨rfl, hb⟩; replace hB := hB.trans (hb.mono hB.size); clear hb))
    go_ret
    exact ⟨by simp, hB⟩
end Go.Proofs.YthckledagggoiaaGreatDoor
