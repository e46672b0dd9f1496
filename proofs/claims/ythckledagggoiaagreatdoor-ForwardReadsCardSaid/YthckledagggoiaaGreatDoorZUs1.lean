import Derived.Test.YthckledagggoiaaGreatDoorZMe
import Derived.Test.YthckledagggoiaaGreatDoorZFp0
import Derived.Shelf.SortM.Plain
import Derived.Shelf.SortM.SortNone
set_option linter.unusedSimpArgs false
set_option linter.unusedVariables false
namespace Go.Proofs.YthckledagggoiaaGreatDoor
open Go.RowKit Go.Shelf Fk Sha
attribute [local go_sem] Oper.semAt_some
/-! onetime.plain: the ciphers of a letter before they are hidden. -/
abbrev plA (k : Int) (a b : Int) : Array Value := #[.int .i64 k, .agg #[.int .i64 a, .int .i64 b]]
def plV (a b p q : Int) : List (Array Value) := [plA 0 a b, plA 1 1 p, plA 2 1 q]
set_option maxRecDepth 100000 in
set_option maxHeartbeats 2000000 in
theorem plain_seq (bx bl K : Nat) (line key a b p q : Int) (ds : List Value) (m : Nat) (hm : 1 ≤ m) :
    SeqL Fence.wide m Tryz.prog 117 #[.pointer (some ⟨bx, 0, none⟩), .pointer (some ⟨bl, 0, none⟩)] (plV a b p q)
      (fun _ => False) (fun r => r = bl) (fun W => Row W bx 36 (retC line key a b ds) ∧ Row W bl 59 [.int .i64 p, .int .i64 q]) K := fun l J Jx W hT hsz hJ hJx hY h0 => by
  refine callsIn_of_wp Tryz.func117 rfl trivial ?_ rfl
  simp only [Tryz.ntmps117, List.size_toArray, List.length_cons, List.length_nil, Nat.reduceAdd, Nat.reduceSub, Array.replicate_succ, Array.replicate_zero, List.push_toArray, List.append_toArray, List.nil_append, List.cons_append]
  obtain ⟨hx, hl⟩ := hT
  have x2 : W.cell? ⟨bx, 2, none⟩ = some (.int .i64 a) := hx.cell 2
  have x3 : W.cell? ⟨bx, 3, none⟩ = some (.int .i64 b) := hx.cell 3
  obtain ⟨fn, tmps, assign, body, hy, hR⟩ := hY 0 _ W h0 (by omega) (show (plV a b p q)[0]? = some (plA 0 a b) from rfl)
  have HY := Lib.hid hY
  have HLW := Lib.hid hl
  clear hY hl hx
  gi_wp2
  refine hR.mono ?_
  rintro e W3 (⟨rfl, hJ3, hS3, hz3⟩ | ⟨rfl, hJx3⟩)
  · have hl3 : Row W3 bl 59 [.int .i64 p, .int .i64 q] := (hS3 bl rfl).trans HLW.out
    have l0 := hl3.cell 0
    have l1 := hl3.cell 1
    clear hy hR x2 x3
    simp only [List.getElem?_cons_zero, List.getElem?_cons_succ] at l0 l1
    gi_wp2
    have hi0 : ∀ w : World, (Instr.index 59 (.agg #[.int .i64 p, .int .i64 q]) (.int .i64 0)).run Tryz.prog w = .ok (.int .i64 p) w := fun w => by kernel_rfl
    have hi1 : ∀ w : World, (Instr.index 59 (.agg #[.int .i64 p, .int .i64 q]) (.int .i64 1)).run Tryz.prog w = .ok (.int .i64 q) w := fun w => by kernel_rfl
    clear l0 l1 hl3 hS3 HLW h0
    gi_loopw [12] (fun i wr => ∃ k : Nat, i = .int .i64 k ∧ k ≤ 2 ∧ J (k + 1) wr ∧ K ≤ wr.heap.size) (fun i _ => 2 - (intOf i).toNat)
    case atStart => exact ⟨0, rfl, by omega, hJ3, by omega⟩
    case round =>
    obtain ⟨k, rfl, hk, hJk, hKw⟩ := hrel
    rcases (show k = 0 ∨ k = 1 ∨ k = 2 by omega) with rfl | rfl | rfl
    · obtain ⟨fn2, tmps2, assign2, body2, hy2, hR2⟩ := HY.out 1 _ wr hJk hKw (show (plV a b p q)[1]? = some (plA 1 1 p) from rfl)
      gi_wp2
      refine hR2.mono ?_
      rintro e W4 (⟨rfl, hJ4, hS4, hz4⟩ | ⟨rfl, hJx4⟩)
      · clear hy2 hR2
        gi_wp2
        exact ⟨⟨1, by go_num, by omega, hJ4, by omega⟩, by simp [intOf]⟩
      · clear hy2 hR2
        gi_wp2
        refine bodyPost_ret (results_none rfl _ _ _) rfl ?_
        exact ⟨⟨_, rfl⟩, .inr ⟨1, (by decide : 1 < 3), hJx4⟩⟩
    · obtain ⟨fn2, tmps2, assign2, body2, hy2, hR2⟩ := HY.out 2 _ wr hJk hKw (show (plV a b p q)[2]? = some (plA 2 1 q) from rfl)
      gi_wp2
      refine hR2.mono ?_
      rintro e W4 (⟨rfl, hJ4, hS4, hz4⟩ | ⟨rfl, hJx4⟩)
      · clear hy2 hR2
        gi_wp2
        exact ⟨⟨2, by go_num, by omega, hJ4, by omega⟩, by simp [intOf]⟩
      · clear hy2 hR2
        gi_wp2
        refine bodyPost_ret (results_none rfl _ _ _) rfl ?_
        exact ⟨⟨_, rfl⟩, .inr ⟨2, (by decide : 2 < 3), hJx4⟩⟩
    · gi_wp2
      go_end0
      exact ⟨⟨_, rfl⟩, .inl hJk⟩
  · clear hy hR x2 x3
    gi_wp2
    refine bodyPost_ret (results_none rfl _ _ _) rfl ?_
    exact ⟨⟨_, rfl⟩, .inr ⟨0, (by decide : 0 < 3), hJx3⟩⟩
set_option maxHeartbeats 400000 in
theorem plain_any (RC : List Value) (hl : RC.length = 36) (p q : Int) (w : World) :
    Calls Tryz.prog 62 #[.agg RC.toArray, .agg #[.int .i64 p, .int .i64 q]] w fun e w' => e = .returned (.func (.func 117) #[] #[.pointer (some ⟨w.heap.size, 0, none⟩), .pointer (some ⟨w.heap.size + 1, 0, none⟩)]) ∧
      (w.alloc (.cells RC.toArray 36)).alloc (.cells #[.int .i64 p, .int .i64 q] 59) = w' := by
  go_enter Tryz.func62, Tryz.ntmps62
  go_wp2
  go_ret
  exact ⟨rfl, rfl⟩
end Go.Proofs.YthckledagggoiaaGreatDoor
