import Derived.Test.YthckledagggoiaaGreatDoorAg1
set_option linter.unusedSimpArgs false
set_option linter.unusedVariables false
namespace Go.Proofs.YthckledagggoiaaGreatDoor
open Go.RowKit Go.MapKept Go.Shelf Fk
attribute [local go_sem] Oper.semAt_some
/-! homes.asked: the iterator, for whoever makes memory between its rounds. -/
theorem DeskK.keepB2 {base : Nat} {w w' : World} {bd : Nat} {D : Int → Int → Option En} (H : DeskK base w bd D) (hk : ∀ r, base ≤ r → r < w.heap.size → w'.heap[r]? = w.heap[r]?) : DeskK base w' bd D := by
  obtain ⟨h, H⟩ := H
  exact ⟨h, H.out.keep (hk _ H.low H.out.lt), fun k b hb => ⟨(H.inn k b hb).1.keep (hk _ (H.inn k b hb).2.2 (H.inn k b hb).1.lt), (H.inn k b hb).2⟩, H.no, H.one, H.low⟩
set_option maxRecDepth 100000 in
set_option maxHeartbeats 4000000 in
theorem asked_seqM (base : Nat) (D : Int → Int → Option En) (p0 : Int) (l : List (Int × Bool)) (hl : Chain (D 2) p0 [p0] l) (bp bx bd B0 K : Nat) (hK : bp < K ∧ bx < K ∧ B0 ≤ bp ∧ B0 ≤ bx ∧ bp ≠ bx) (m : Nat) (hm : 1 ≤ m) :
    SeqM Fence.wide m Tryz.prog 111 #[.pointer (some ⟨bp, 0, none⟩), .pointer (some ⟨bx, 0, none⟩)] (l.map askV)
      (fun r => r = bp ∨ r = K) (fun W => Boxed W bp 3 (.int .i64 p0) ∧ Boxed W bx 104 (.map (some bd)) ∧ ∃ Wd, Wd.heap.size ≤ B0 ∧ DeskK base Wd bd D ∧ Below Wd.heap.size Wd W) K (fun r => r ≠ bp ∧ r ≠ bx ∧ r ≠ K ∧ (r < base ∨ B0 ≤ r)) := fun L J Jx Z W hT hK' hJ hJx hZa hZo hY h0 => by
  have HZO := Lib.hid hZo
  have HZA := Lib.hid hZa
  clear hZo hZa
  obtain ⟨hT1, hT2, Wd, hd1, hd2, hd3⟩ := hT
  refine callsIn_of_wp Tryz.func111 rfl trivial ?_ rfl
  simp only [Tryz.ntmps111, List.size_toArray, List.length_cons, List.length_nil, Nat.reduceAdd, Nat.reduceSub, Array.replicate_succ, Array.replicate_zero, List.push_toArray, List.append_toArray, List.nil_append, List.cons_append]
  have c1 := hT1.cell
  have hmm := @run_makeMap Tryz.prog
  obtain ⟨w1, r1, m1, g1⟩ := (MapK.made (Value.int .i64) W).put law_int Tryz.underlying131 p0 (.bool true)
  have e0 : updF (fun _ => none) p0 (.bool true) = metM [p0] := by
    have h : (fun _ => none : Int → Option Value) = metM [] := by funext a; unfold metM; rw [if_neg (by simp)]
    rw [h, metM_put]
  rw [e0] at m1
  have b1 : Boxed w1 bp 3 (.int .i64 p0) := (hT1.alloc _).kept g1 (fun e => by have := Option.some.inj e; omega)
  have b2 : Boxed w1 bx 104 (.map (some bd)) := (hT2.alloc _).kept g1 (fun e => by have := Option.some.inj e; omega)
  have hz1 := g1.size
  rw [World.size_alloc] at hz1
  have hJ1 : J 0 w1 := hJ 0 _ _ (some W.heap.size) (hJ.new _ h0) g1 (fun r e => .inr (by rw [← Option.some.inj e]; exact hK'))
  have hd4 : Below Wd.heap.size Wd w1 := (hd3.alloc hd3.size _).grown g1 (by have := hd3.size; simp; omega) (fun r e => by have := Option.some.inj e; have := hd3.size; omega)
  rw [hK'] at m1 r1
  have HM := Lib.hid m1
  have HD4 := Lib.hid hd4
  have HD2 := Lib.hid hd2
  clear m1 g1 e0 hd3 hd4 hd2
  refine wpIn_scope_wide ?_
  gi_wp2
  refine wpIn_label ?_
  gi_wp2
  gi_loopg [] l.length (fun g wr => ∃ (p : Int) (met : List Int) (r : List (Int × Bool)) (k : Nat), Chain (D 2) p met r ∧ l.drop k = r ∧ r.length = g ∧ k + g = l.length ∧ Boxed wr bp 3 (.int .i64 p) ∧ Boxed wr bx 104 (.map (some bd)) ∧ MapK (Value.int .i64) wr K (metM met) ∧ (∀ r, base ≤ r → r < Wd.heap.size → wr.heap[r]? = Wd.heap[r]?) ∧ J k wr)
  case atStart => exact ⟨p0, [p0], l, 0, hl, rfl, rfl, by omega, b1, b2, HM.out, fun r _ h => HD4.out.block r h, hJ1⟩
  case round =>
    obtain ⟨p, met, r, k, hch, hdr, hg, hkg, i1, i2, im, ib, iJ⟩ := hrel
    have HDk : DeskK base wr bd D := HD2.out.keepB2 ib
    obtain ⟨mv, l1, l2⟩ := HDk.look 2
    have l2p := l2 p true
    rw [if_pos rfl] at l2p
    have c2 := i1.cell
    have c3 := i2.cell
    have hlm := im.lt
    have c4 : ∀ X, (wr.alloc X).cell? ⟨bp, 0, none⟩ = some (.int .i64 p) := fun X => (i1.alloc X).cell
    have hbp : bp < wr.heap.size := by omega
    have hbx : bx < wr.heap.size := by omega
    have hdl : r = l.drop k := hdr.symm
    clear l2 HDk c1 r1 b1 b2
    cases hch with
    | stop hp =>
      rw [hp] at l2p
      have hv : (l.map askV)[k]? = some (askV (p, false)) := by
        have := congrArg (fun t => t[0]?) hdr
        simp only [List.getElem?_drop, Nat.add_zero, List.getElem?_cons_zero] at this
        rw [List.getElem?_map, this]; rfl
      have hkl : k + 1 = l.length := by simp at hg; omega
      have hJn : J k (wr.alloc (.cells #[.int .i64 0, .int .i64 0, .int .i64 0, .int .i64 0, .int .i64 0, .int .i64 0, .int .i64 0, .int .i64 0] 49)) := hJ.new _ iJ
      obtain ⟨fn, tmps, assign, body, hy, hR⟩ := hY k _ _ hJn (by simp; omega) hv
      simp only [Option.getD_none, Option.isSome_none, zeroE, En.val] at l2p
      have HL := Lib.hid hkl
      clear hv hdl hdr hkg hJn hkl
      gi_wp2
      refine hR.mono ?_
      rintro e W3 (⟨rfl, hJ3, hS3, hz3⟩ | ⟨rfl, hJx3⟩)
      · gi_wp2
        rw [Exit.noGoto_normal]
        go_end0
        exact ⟨⟨_, rfl⟩, .inl (by rw [List.length_map, ← HL.out]; exact hJ3)⟩
      · gi_wp2
        rw [Exit.noGoto_normal]
        go_end0
        exact ⟨⟨_, rfl⟩, .inr ⟨k, by rw [List.length_map]; have := HL.out; omega, hJx3⟩⟩
    | @circle _ _ x hp hm =>
      rw [hp] at l2p
      have hv : (l.map askV)[k]? = some (askV (p, true)) := by
        have := congrArg (fun t => t[0]?) hdr
        simp only [List.getElem?_drop, Nat.add_zero, List.getElem?_cons_zero] at this
        rw [List.getElem?_map, this]; rfl
      have hkl : k + 1 = l.length := by simp at hg; omega
      have hJn : J k (wr.alloc (.cells #[.int .i64 x.no, .int .i64 x.kind, .int .i64 x.a, .int .i64 x.b, .int .i64 x.from_, .int .i64 x.until_, .int .i64 x.known, .int .i64 x.gone] 49)) := hJ.new _ iJ
      obtain ⟨fn, tmps, assign, body, hy, hR⟩ := hY k _ _ hJn (by simp; omega) hv
      simp only [Option.getD_some, Option.isSome_some] at l2p
      have l3 := (im.alloc (.cells #[.int .i64 x.no, .int .i64 x.kind, .int .i64 x.a, .int .i64 x.b, .int .i64 x.from_, .int .i64 x.until_, .int .i64 x.known, .int .i64 x.gone] 49)).look law_int Tryz.underlying131 (zero_bool2 _) x.b false
      rw [if_neg (by decide), metM_get, decide_eq_true hm] at l3
      unfold En.val at l2p
      have HL := Lib.hid hkl
      clear hv hdl hdr hkg hJn hkl hm
      gi_wp2
      refine hR.mono ?_
      rintro e W3 (⟨rfl, hJ3, hS3, hz3⟩ | ⟨rfl, hJx3⟩)
      · gi_wp2
        rw [Exit.noGoto_normal]
        go_end0
        exact ⟨⟨_, rfl⟩, .inl (by rw [List.length_map, ← HL.out]; exact hJ3)⟩
      · gi_wp2
        rw [Exit.noGoto_normal]
        go_end0
        exact ⟨⟨_, rfl⟩, .inr ⟨k, by rw [List.length_map]; have := HL.out; omega, hJx3⟩⟩
    | @step _ _ x r' hp hm hr =>
      rw [hp] at l2p
      have hv : (l.map askV)[k]? = some (askV (p, false)) := by
        have := congrArg (fun t => t[0]?) hdr
        simp only [List.getElem?_drop, Nat.add_zero, List.getElem?_cons_zero] at this
        rw [List.getElem?_map, this]; rfl
      have hdr2 : l.drop (k + 1) = r' := by
        have := congrArg List.tail hdr
        rw [List.tail_cons, List.tail_drop] at this
        exact this
      have hgk : r'.length + 1 = gk := by simpa using hg
      have hJn : J k (wr.alloc (.cells #[.int .i64 x.no, .int .i64 x.kind, .int .i64 x.a, .int .i64 x.b, .int .i64 x.from_, .int .i64 x.until_, .int .i64 x.known, .int .i64 x.gone] 49)) := hJ.new _ iJ
      obtain ⟨fn, tmps, assign, body, hy, hR⟩ := hY k _ _ hJn (by simp; omega) hv
      simp only [Option.getD_some, Option.isSome_some] at l2p
      have l3 := (im.alloc (.cells #[.int .i64 x.no, .int .i64 x.kind, .int .i64 x.a, .int .i64 x.b, .int .i64 x.from_, .int .i64 x.until_, .int .i64 x.known, .int .i64 x.gone] 49)).look law_int Tryz.underlying131 (zero_bool2 _) x.b false
      rw [if_neg (by decide), metM_get, decide_eq_false hm] at l3
      have HZ := Lib.hid (fun r hz => HZO.out k _ r hJn hz)
      have HF := Lib.hid (p := ¬ Z (wr.alloc (.cells #[.int .i64 x.no, .int .i64 x.kind, .int .i64 x.a, .int .i64 x.b, .int .i64 x.from_, .int .i64 x.until_, .int .i64 x.known, .int .i64 x.gone] 49)) wr.heap.size) (fun hz => Nat.lt_irrefl _ (HZO.out k wr wr.heap.size iJ (HZA.out k wr _ _ iJ hz)).2)
      unfold En.val at l2p
      have HD := Lib.hid hdr2
      have HK := Lib.hid hkg
      have HG := Lib.hid hgk
      have HC := Lib.hid hr
      clear hv hdl hdr hJn hdr2 hkg hgk hg hr hm
      gi_wp2
      refine hR.mono ?_
      rintro e W3 (⟨rfl, hJ3, hS3, hz3⟩ | ⟨rfl, hJx3⟩)
      · have k1 : Boxed W3 bp 3 (.int .i64 p) := (hS3 bp (by simp; omega) (fun hz => (HZ.out bp hz).1.1 rfl)).trans (i1.alloc _)
        have k2 : Boxed W3 bx 104 (.map (some bd)) := (hS3 bx (by simp; omega) (fun hz => (HZ.out bx hz).1.2.1 rfl)).trans (i2.alloc _)
        have km : MapK (Value.int .i64) W3 K (metM met) := (im.alloc _).keep (hS3 K (by simp; omega) (fun hz => (HZ.out K hz).1.2.2.1 rfl))
        have kr : Row W3 wr.heap.size 49 [.int .i64 x.no, .int .i64 x.kind, .int .i64 x.a, .int .i64 x.b, .int .i64 x.from_, .int .i64 x.until_, .int .i64 x.known, .int .i64 x.gone] := (hS3 wr.heap.size (by simp) HF.out).trans (Row.new wr 49 [.int .i64 x.no, .int .i64 x.kind, .int .i64 x.a, .int .i64 x.b, .int .i64 x.from_, .int .i64 x.until_, .int .i64 x.known, .int .i64 x.gone])
        have kb : ∀ r, base ≤ r → r < Wd.heap.size → W3.heap[r]? = Wd.heap[r]? := fun r hbr h => (hS3 r (by simp; omega) (fun hz => by have := (HZ.out r hz).1.2.2.2; omega)).trans ((Below.heap_alloc _ _ r (by omega)).trans (ib r hbr h))
        obtain ⟨n0, n1, n2, n3, n4, n5, n6, n7⟩ := st8e kr
        have q1 := k1.cell
        have q2 := k1.frozen
        have km2 : MapK (Value.int .i64) (W3.setCell ⟨bp, 0, none⟩ (.int .i64 x.b)).drew K (metM met) := km.keep (Below.heap_setCell _ _ _ K (by simp only []; omega))
        obtain ⟨w5, r5, m5, g5⟩ := km2.put law_int Tryz.underlying131 x.b (.bool true)
        have k1s : Boxed (W3.setCell ⟨bp, 0, none⟩ (.int .i64 x.b)).drew bp 3 (.int .i64 x.b) := k1.set _
        have k2s : Boxed (W3.setCell ⟨bp, 0, none⟩ (.int .i64 x.b)).drew bx 104 (.map (some bd)) := k2.other (B' := bp) (by omega) _
        gi_wp2
        gi_region
        gi_wp2
        have hB0 : Wd.heap.size ≤ bp := by omega
        have hJ4 : J (k + 1) (W3.setCell ⟨bp, 0, none⟩ (.int .i64 x.b)) := hJ (k + 1) _ _ (some bp) hJ3 (grownBy_setCell' W3 bp _) (fun r e => .inl (Option.some.inj e).symm)
        have hJ5 : J (k + 1) (W3.setCell ⟨bp, 0, none⟩ (.int .i64 x.b)).drew := hJ (k + 1) _ _ none hJ4 ⟨rfl, rfl, rfl, Nat.le_refl _, fun _ _ _ => rfl⟩ (fun r e => by cases e)
        have hJ6 : J (k + 1) w5 := hJ (k + 1) _ _ (some K) hJ5 g5 (fun r e => .inr (Option.some.inj e).symm)
        have k1e : Boxed w5 bp 3 (.int .i64 x.b) := k1s.kept g5 (fun e => by have := Option.some.inj e; omega)
        have k2e : Boxed w5 bx 104 (.map (some bd)) := k2s.kept g5 (fun e => by have := Option.some.inj e; omega)
        have kbe : ∀ r, base ≤ r → r < Wd.heap.size → w5.heap[r]? = Wd.heap[r]? := fun r hbr h => (g5.block r (by have := k1s.lt; omega) (fun e => by have := Option.some.inj e; omega)).trans ((Below.heap_setCell W3 ⟨bp, 0, none⟩ _ r (by simp only []; omega)).trans (kb r hbr h))
        rw [metM_put] at m5
        gi_roundg (gk - 1)
        case measure => have := HG.out; omega
        case rel => exact ⟨x.b, x.b :: met, r', k + 1, HC.out, HD.out, by have := HG.out; omega, by have := HG.out; have := HK.out; omega, k1e, k2e, m5, kbe, hJ6⟩
      · gi_wp2
        rw [Exit.noGoto_normal]
        go_end0
        exact ⟨⟨_, rfl⟩, .inr ⟨k, by rw [List.length_map]; have := HK.out; have := HG.out; omega, hJx3⟩⟩
end Go.Proofs.YthckledagggoiaaGreatDoor
