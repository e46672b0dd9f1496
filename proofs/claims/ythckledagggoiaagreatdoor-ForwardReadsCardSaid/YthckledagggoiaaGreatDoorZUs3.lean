import Derived.Test.YthckledagggoiaaGreatDoorZUs2
import Derived.Deep.LoopGhost
set_option linter.unusedSimpArgs false
set_option linter.unusedVariables false
namespace Go.Proofs.YthckledagggoiaaGreatDoor
open Go.RowKit Go.Shelf Fk Sha
/-! onetime.Use, where a word is none. -/
theorem use_zero {w W : World} {MC : List Value} {p q r0 r1 r2 : Int} (hI : US w W MC p q r0 r1 r2 zeroS) :
    Row ((((((W.setCell ⟨w.heap.size + 1 + 1 + 1, 0, none⟩ (.int .i64 0)).setCell ⟨w.heap.size + 1 + 1 + 1, 1, none⟩ (.int .i64 0)).setCell ⟨w.heap.size + 1 + 1 + 1, 2, none⟩ (.int .i64 0)).setCell ⟨w.heap.size + 1 + 1 + 1, 3, none⟩ (.int .i64 0)).setCell ⟨w.heap.size + 1 + 1 + 1, 4, none⟩ (.int .i64 0)).setCell ⟨w.heap.size + 1 + 1 + 1, 5, none⟩ (.int .i64 0)) (w.heap.size + 1 + 1 + 1) 70 zeroS ∧
    Below w.heap.size w ((((((W.setCell ⟨w.heap.size + 1 + 1 + 1, 0, none⟩ (.int .i64 0)).setCell ⟨w.heap.size + 1 + 1 + 1, 1, none⟩ (.int .i64 0)).setCell ⟨w.heap.size + 1 + 1 + 1, 2, none⟩ (.int .i64 0)).setCell ⟨w.heap.size + 1 + 1 + 1, 3, none⟩ (.int .i64 0)).setCell ⟨w.heap.size + 1 + 1 + 1, 4, none⟩ (.int .i64 0)).setCell ⟨w.heap.size + 1 + 1 + 1, 5, none⟩ (.int .i64 0)) := by
  have k : ∀ (X : World) (i : Nat) (u : Value), Below w.heap.size w X → Below w.heap.size w (X.setCell ⟨w.heap.size + 1 + 1 + 1, i, none⟩ u) := fun X i u h => h.setCell (p := ⟨w.heap.size + 1 + 1 + 1, i, none⟩) (by simp only []; omega) _
  exact ⟨(((((hI.r6.store 0 (.int .i64 0)).store 1 (.int .i64 0)).store 2 (.int .i64 0)).store 3 (.int .i64 0)).store 4 (.int .i64 0)).store 5 (.int .i64 0), k _ 5 _ (k _ 4 _ (k _ 3 _ (k _ 2 _ (k _ 1 _ (k _ 0 _ hI.bel)))))⟩
set_option maxRecDepth 100000 in
set_option maxHeartbeats 4000000 in
theorem ouse_bad (line key al r p q r0 r1 r2 : Int) (hln : 0 ≤ line ∧ line < 64) (hk : vld key = true) (ha : 1 ≤ al ∧ al ≤ 1073741789) (hpq : ¬ (elE p = 0 ∧ elE q = 0)) (w : World) (hT : TabOK w) :
    Calls Tryz.prog 23 #[.agg (makeC line key al r).toArray, .agg #[.int .i64 p, .int .i64 q], .agg #[.int .i64 r0, .int .i64 r1, .int .i64 r2]] w
      fun e w' => e = .returned (.tuple #[(default : Se).val, .int .i64 100]) ∧ Below w.heap.size w w' := by
  have c1 := fun (W : World) (hb : Below w.heap.size w W) => ocheck_make line key al r hln hk ha W (hT.below hb)
  have c2 := fun W => element_any p W
  have c3 := fun W => element_any q W
  have hml := makeC_len line key al r
  obtain ⟨ep, hep⟩ : ∃ y, elC p = y := ⟨_, rfl⟩
  obtain ⟨eq, heq⟩ : ∃ y, elC q = y := ⟨_, rfl⟩
  obtain ⟨fp, hfp⟩ : ∃ y, elE p = y := ⟨_, rfl⟩
  obtain ⟨fq, hfq⟩ : ∃ y, elE q = y := ⟨_, rfl⟩
  rw [hep, hfp] at c2
  rw [heq, hfq] at c3
  rw [hfp, hfq] at hpq
  obtain ⟨MC, hMC⟩ : ∃ y, makeC line key al r = y := ⟨_, rfl⟩
  rw [hMC] at c1 hml ⊢
  have hinf : (Tryz.prog.info? 36).map (·.size) = some MC.length := by rw [hml]; kernel_rfl
  have hi0 : ∀ w : World, (Instr.index 59 (.agg #[.int .i64 p, .int .i64 q]) (.int .i64 0)).run Tryz.prog w = .ok (.int .i64 p) w := fun w => by kernel_rfl
  have hi1 : ∀ w : World, (Instr.index 59 (.agg #[.int .i64 p, .int .i64 q]) (.int .i64 1)).run Tryz.prog w = .ok (.int .i64 q) w := fun w => by kernel_rfl
  have hS := US.start w MC p q r0 r1 r2
  have C1 := Lib.hid c1
  have C2 := Lib.hid c2
  have C3 := Lib.hid c3
  have HI := Lib.hid hinf
  have HPQ := Lib.hid hpq
  clear c1 c2 c3 hep heq hfp hfq hMC hml hinf hk ha hln hT hpq
  have hd : (default : Se).val = .agg zeroS.toArray := rfl
  rw [hd]
  clear hd
  go_enter Tryz.func23, Tryz.ntmps23
  go_wp2_with (first
    | (refine wpList_load_at (by kernel_rfl) 36 (.tmp 3) rfl w.heap.size 0 MC (by kernel_rfl) (range_rowF hS.r3) Tryz.underlying36 rfl HI.out ?_)
    | (go_at_call 22; (with_reducible refine (C1.out _ hS.bel).mono ?_); rintro e w1 ⟨rfl, hb⟩; replace hS := hS.below hb; clear hb; obtain ⟨⟨n0, n1⟩, z0, z1⟩ := hS.two))
  clear n0 n1 z0 z1
  go_loopg [21] 2 (fun gg iv wr => ∃ k : Nat, iv = .int .i64 k ∧ k + gg = 2 ∧ US w wr MC (if 0 < k then ep else p) q r0 r1 r2 zeroS ∧ (k = 0 ∨ (k = 1 ∧ Hid (fp = 0))))
  case atStart => exact ⟨0, rfl, by omega, hS, .inl rfl⟩
  case round =>
    clear hS
    obtain ⟨k, rfl, hkg, hS, hk⟩ := hrel
    rcases hk with rfl | ⟨rfl, hfp⟩
    · replace hS : US w wr MC p q r0 r1 r2 zeroS := hS
      obtain ⟨⟨n0, n1⟩, z0, z1⟩ := hS.two
      by_cases hf : fp = 0
      · subst hf
        have hS2 := Lib.hid (hS.set4 ep).1
        go_wp2_with (go_at_call 61; (with_reducible refine (C2.out _).mono ?_); rintro e w2 ⟨rfl, rfl⟩)
        go_roundg (gk - 1)
        case measure => omega
        case rel => exact ⟨1, by first | rfl | go_num, by omega, hS2.out, .inr ⟨rfl, Lib.hid (by trivial)⟩⟩
      · have zf : (fp != 0) = true := bne_iff_ne.2 hf
        have h6 := hS.r6
        have o0 : wr.cell? ⟨w.heap.size + 1 + 1 + 1, 0, none⟩ = some (.int .i64 0) := h6.cell 0
        have o1 : wr.cell? ⟨w.heap.size + 1 + 1 + 1, 1, none⟩ = some (.int .i64 0) := h6.cell 1
        have o2 : wr.cell? ⟨w.heap.size + 1 + 1 + 1, 2, none⟩ = some (.int .i64 0) := h6.cell 2
        have o3 : wr.cell? ⟨w.heap.size + 1 + 1 + 1, 3, none⟩ = some (.int .i64 0) := h6.cell 3
        have o4 : wr.cell? ⟨w.heap.size + 1 + 1 + 1, 4, none⟩ = some (.int .i64 0) := h6.cell 4
        have o5 : wr.cell? ⟨w.heap.size + 1 + 1 + 1, 5, none⟩ = some (.int .i64 0) := h6.cell 5
        have f0 := h6.frozen 0
        have f1 := h6.frozen 1
        have f2 := h6.frozen 2
        have f3 := h6.frozen 3
        have f4 := h6.frozen 4
        have f5 := h6.frozen 5
        have HSS := Lib.hid hS
        clear hf h6 hS n0 n1 z0 z1
        go_wp2_with (go_at_call 61; (with_reducible refine (C2.out _).mono ?_); rintro e w2 ⟨rfl, rfl⟩)
        have hz := use_zero HSS.out
        exact bodyPost_ret (ret_use _ _ _ zeroS 100 rfl rfl rfl hz.1) rfl ⟨rfl, hz.2⟩
    · replace hS : US w wr MC ep q r0 r1 r2 zeroS := hS
      obtain ⟨⟨n0, n1⟩, z0, z1⟩ := hS.two
      have hf : ¬ fq = 0 := fun h => HPQ.out ⟨hfp.out, h⟩
      have zf : (fq != 0) = true := bne_iff_ne.2 hf
      have h6 := hS.r6
      have o0 : wr.cell? ⟨w.heap.size + 1 + 1 + 1, 0, none⟩ = some (.int .i64 0) := h6.cell 0
      have o1 : wr.cell? ⟨w.heap.size + 1 + 1 + 1, 1, none⟩ = some (.int .i64 0) := h6.cell 1
      have o2 : wr.cell? ⟨w.heap.size + 1 + 1 + 1, 2, none⟩ = some (.int .i64 0) := h6.cell 2
      have o3 : wr.cell? ⟨w.heap.size + 1 + 1 + 1, 3, none⟩ = some (.int .i64 0) := h6.cell 3
      have o4 : wr.cell? ⟨w.heap.size + 1 + 1 + 1, 4, none⟩ = some (.int .i64 0) := h6.cell 4
      have o5 : wr.cell? ⟨w.heap.size + 1 + 1 + 1, 5, none⟩ = some (.int .i64 0) := h6.cell 5
      have f0 := h6.frozen 0
      have f1 := h6.frozen 1
      have f2 := h6.frozen 2
      have f3 := h6.frozen 3
      have f4 := h6.frozen 4
      have f5 := h6.frozen 5
      have HSS := Lib.hid hS
      clear hf h6 hS n0 n1 z0 z1 hfp
      go_wp2_with (go_at_call 61; (with_reducible refine (C3.out _).mono ?_); rintro e w2 ⟨rfl, rfl⟩)
      have hz := use_zero HSS.out
      exact bodyPost_ret (ret_use _ _ _ zeroS 100 rfl rfl rfl hz.1) rfl ⟨rfl, hz.2⟩
end Go.Proofs.YthckledagggoiaaGreatDoor
