import Derived.Test.YthckledagggoiaaGreatDoorZFs3
set_option linter.unusedSimpArgs false
set_option linter.unusedVariables false
namespace Go.Proofs.YthckledagggoiaaGreatDoor
open Go.RowKit Go.Shelf Fk Sha
/-! The law's examples. -/
theorem find_ex : findV 5 1 0 (aliasN 5 0 0) = (0, true) := by
  unfold findV
  rw [if_pos (by decide), show (1 : Int).toNat = 1 from rfl, firstA_some (f := fun p => aliasN 5 p 0) (a := aliasN 5 0 0) (k := 0) (by omega) rfl (fun q hq => by omega)]
  rfl
theorem chk_ex (p q : Nat) : chkK [lineX p q] [4] 5 1 0 = 0 := by
  unfold chkK
  rw [show [(4 : Int)].all vld = true from by simp [vld_4]]
  rfl
theorem tt_ex (p q : Nat) : ttE [lineX p q] 4 = 0 := by kernel_rfl
theorem nx_ex (p q : Nat) (en : En) (t : Int × Int × Int) (ho : openE [en] 0 0 0 = 0) (hw : whereH [en] 0 0 0 = t) : nextR [lineX p q] 4 [4] 5 [en] 1 0 (aliasN 5 0 0) 0 0 9 = moreR [lineX p q] [4] 5 0 9 t := by
  unfold nextR
  rw [if_neg (by rw [tt_ex]; simp), if_neg (by rw [chk_ex]; simp), find_ex, if_neg (by simp), if_neg (by rw [ho]; simp), hw]
theorem nx1 (p q : Nat) : nextR [lineX p q] 4 [4] 5 [entryE 0 1 0 3] 1 0 (aliasN 5 0 0) 0 0 9 = (fullF (1, 0, 3) 0 4 (aliasA 5 0 3) 9, 0) := by
  rw [nx_ex p q (entryE 0 1 0 3) (1, 0, 3) (by decide) (by decide)]
  unfold moreR
  rw [if_neg (by decide), show idxO [lineX p q] 0 3 = some 0 from by kernel_rfl]
  simp only
  rw [if_neg (show ¬ ckE 5 3 (idP 0) ≠ 0 by decide)]
  rfl
theorem nx2 (p q : Nat) : nextR [lineX p q] 4 [4] 5 [entryE 0 3 0 0] 1 0 (aliasN 5 0 0) 0 0 9 = (homeF (3, 0, 0), 0) := by
  rw [nx_ex p q (entryE 0 3 0 0) (3, 0, 0) (by decide) (by decide)]
  unfold moreR
  rw [if_pos (by decide)]
theorem nx3 (p q : Nat) : nextR [lineX p q] 4 [4] 5 [entryE 0 1 0 0] 1 0 (aliasN 5 0 0) 0 0 9 = (homeF (1, 0, 0), 0) := by
  rw [nx_ex p q (entryE 0 1 0 0) (1, 0, 0) (by decide) (by decide)]
  unfold moreR
  rw [if_pos (by decide)]
theorem nx4 (p q : Nat) : nextR [lineX p q] 4 [4] 5 [entryE 0 1 0 2] 1 0 (aliasN 5 0 0) 0 0 9 = (homeF (2, 0, 0), 0) := by
  rw [nx_ex p q (entryE 0 1 0 2) (1, 0, 2) (by decide) (by decide)]
  unfold moreR
  rw [if_neg (by decide), show idxO [lineX p q] 0 2 = none from by kernel_rfl]
theorem nx5 (p q : Nat) : nextR [lineX p q] 4 [4] 5 [] 0 0 1 0 0 9 = (zeroF, 350) := by
  unfold nextR
  rw [if_neg (by rw [tt_ex]; simp), if_neg (by unfold chkK; rw [show [(4 : Int)].all vld = true from by simp [vld_4]]; exact (show ¬ fchkE 1 1 true 5 0 0 ≠ 0 by decide)), if_pos]
  unfold findV
  rw [if_pos (by decide), show (0 : Int).toNat = 0 from rfl, firstA_none (fun q hq => by omega)]
  rfl
theorem nx6 (p q : Nat) : nextR [lineX p q] 4 [] 5 [] 4 0 1 0 0 9 = (zeroF, 1) := by
  have h : chkK [lineX p q] [] 5 4 0 = 1 := by kernel_rfl
  unfold nextR
  rw [if_neg (by rw [tt_ex]; simp), if_pos (by rw [h]; decide), h]
theorem nx7 (p q : Nat) : nextR [lineX p q] 4 [2] 5 [] 4 0 1 0 0 9 = (zeroF, 90) := by
  have h : chkK [lineX p q] [2] 5 4 0 = 90 := by
    unfold chkK
    rw [show [(2 : Int)].all vld = false from by simp [vld_2]]
    rfl
  unfold nextR
  rw [if_neg (by rw [tt_ex]; simp), if_pos (by rw [h]; decide), h]
theorem nx8 (p q : Nat) : nextR [lineX p q] 4 [4] 0 [] 4 0 1 0 0 9 = (zeroF, 110) := by
  have h : chkK [lineX p q] [4] 0 4 0 = 110 := by
    unfold chkK
    rw [show [(4 : Int)].all vld = true from by simp [vld_4]]
    rfl
  unfold nextR
  rw [if_neg (by rw [tt_ex]; simp), if_pos (by rw [h]; decide), h]
theorem eqHome {a b c a' b' c' : Int} (h : okN a ∧ okN b ∧ okN c) (h' : okN a' ∧ okN b' ∧ okN c') (w : World) :
    (Op.equalIn 10000 30 (.agg #[.int .i64 a, .int .i64 b, .int .i64 c]) (.agg #[.int .i64 a', .int .i64 b', .int .i64 c'])).run Tryz.prog w = .ok (decide (a = a' ∧ b = b' ∧ c = c')) w := by
  have c0 : Tryz.prog.cellsOf 30 = 3 := by kernel_rfl
  exact deepEq 10 (by decide) (by kernel_rfl) (by simp [Value.formed, Tryz.underlying30, c0]) (by simp [Value.formed, Tryz.underlying30, c0]) (klH 8 h.1 h.2.1 h.2.2) (klH 8 h'.1 h'.2.1 h'.2.2) (by simp) w
theorem range_home {w : World} {g : Nat} {x : Fw} (h : Row w g 38 x.cells) : w.rangeAt g 0 [.int .i64 x.k, .int .i64 x.p, .int .i64 x.o] := fun j v hj => by
  rw [Nat.zero_add, h.cell]
  unfold Fw.cells
  rw [List.getElem?_append_left (List.getElem?_eq_some_iff.1 hj).1]
  exact hj
theorem range_back {w : World} {g : Nat} {x : Fw} (h : Row w g 38 x.cells) : w.rangeAt g 3 (retC x.line x.key x.a x.b (x.ds.map bv)) := fun j v hj => by
  rw [h.cell]
  unfold Fw.cells
  rw [List.getElem?_append_right (by simp)]
  simpa using hj
structure SaneS (w W : World) (G1 G2 G3 G4 : Nat) (F1 F2 F3 F4 : Fw) : Prop where
  bel : Below w.heap.size w W
  r1 : Row W G1 38 F1.cells
  r2 : Row W G2 38 F2.cells
  r3 : Row W G3 38 F3.cells
  r4 : Row W G4 38 F4.cells
theorem SaneS.below {w W W' : World} {G1 G2 G3 G4 : Nat} {F1 F2 F3 F4 : Fw} (h : SaneS w W G1 G2 G3 G4 F1 F2 F3 F4) (hb : Below W.heap.size W W') : SaneS w W' G1 G2 G3 G4 F1 F2 F3 F4 :=
  ⟨h.bel.trans (hb.mono h.bel.size), h.r1.below hb h.r1.lt, h.r2.below hb h.r2.lt, h.r3.below hb h.r3.lt, h.r4.below hb h.r4.lt⟩
end Go.Proofs.YthckledagggoiaaGreatDoor
