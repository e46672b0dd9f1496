import Derived.Test.YthboebhghaabnaaDoorPsk
import Derived.Deep.QuietTactic
import Derived.BigQuiet
import Derived.Deep.Cut
import Derived.Deep.CutRange
import Derived.Deep.RegionHeld3
set_option linter.unusedSimpArgs false
set_option linter.unusedVariables false
namespace Go.Proofs.YthboebhghaabnaaDoor
open Go.RowKit Fk Sha
/-! Small functions of law 14 and of its reference: few; long; opposite. -/
def fewMx (m : Mx) : Bool := decide (m.i.length ≤ 6) && (decide (m.m.length ≤ 7) && (decide (m.o.length ≤ 7) && (decide (m.l.length ≤ 7) && decide (m.r.length ≤ 7))))
set_option maxRecDepth 100000 in
set_option maxHeartbeats 2000000 in
theorem fewmix_any (m : Mx) (x : MxA) (w : World) :
    Calls Tryd.prog 21 #[.agg (x.cells m).toArray] w fun e w' => e = .returned (.bool (fewMx m)) ∧ Below w.heap.size w w' := by
  have hD : fewMx m = (decide (m.i.length ≤ 6) && (decide (m.m.length ≤ 7) && (decide (m.o.length ≤ 7) && (decide (m.l.length ≤ 7) && decide (m.r.length ≤ 7))))) := rfl
  have hB := below_alloc' w (.cells (x.cells m).toArray 45)
  have r0 := Row.new w 45 (x.cells m)
  obtain ⟨ai, ci, am, cm, ao, co, al, cl, ar, cr⟩ := x
  unfold MxA.cells at hB r0 ⊢
  simp only at hB r0 ⊢
  obtain ⟨W, hW⟩ : ∃ W, w.alloc (.cells #[.slice ai m.i.length ci, .slice am m.m.length cm, .slice ao m.o.length co, .slice al m.l.length cl, .slice ar m.r.length cr] 45) = W := ⟨_, rfl⟩
  replace r0 : Row W w.heap.size 45 [.slice ai m.i.length ci, .slice am m.m.length cm, .slice ao m.o.length co, .slice al m.l.length cl, .slice ar m.r.length cr] := hW ▸ r0
  replace hB : Below w.heap.size w W := hW ▸ hB
  have c0 : W.cell? ⟨w.heap.size, 0, none⟩ = some _ := r0.cell 0
  have c1 : W.cell? ⟨w.heap.size, 1, none⟩ = some _ := r0.cell 1
  have c2 : W.cell? ⟨w.heap.size, 2, none⟩ = some _ := r0.cell 2
  have c3 : W.cell? ⟨w.heap.size, 3, none⟩ = some _ := r0.cell 3
  have c4 : W.cell? ⟨w.heap.size, 4, none⟩ = some _ := r0.cell 4
  clear r0
  by_cases f0 : (m.i.length : Int) ≤ 6
  rotate_left 1
  · have q := Lib.hid (show fewMx m = false by rw [hD]; simp; omega)
    clear hD
    go_enter Tryd.func21, Tryd.ntmps21
    go_upto_region 1 with fail
    try rw [hW]
    try clear hW
    go_wp2_with fail
    go_ret
    exact ⟨ret_bool q.out.symm, hB⟩
  by_cases f1 : (m.m.length : Int) ≤ 7
  rotate_left 1
  · have q := Lib.hid (show fewMx m = false by rw [hD]; simp; omega)
    clear hD
    go_enter Tryd.func21, Tryd.ntmps21
    go_upto_region 1 with fail
    try rw [hW]
    try clear hW
    go_wp2_with fail
    go_ret
    exact ⟨ret_bool q.out.symm, hB⟩
  by_cases f2 : (m.o.length : Int) ≤ 7
  rotate_left 1
  · have q := Lib.hid (show fewMx m = false by rw [hD]; simp; omega)
    clear hD
    go_enter Tryd.func21, Tryd.ntmps21
    go_upto_region 1 with fail
    try rw [hW]
    try clear hW
    go_wp2_with fail
    go_ret
    exact ⟨ret_bool q.out.symm, hB⟩
  by_cases f3 : (m.l.length : Int) ≤ 7
  rotate_left 1
  · have q := Lib.hid (show fewMx m = false by rw [hD]; simp; omega)
    clear hD
    go_enter Tryd.func21, Tryd.ntmps21
    go_upto_region 1 with fail
    try rw [hW]
    try clear hW
    go_wp2_with fail
    go_ret
    exact ⟨ret_bool q.out.symm, hB⟩
  by_cases f4 : (m.r.length : Int) ≤ 7
  rotate_left 1
  · have q := Lib.hid (show fewMx m = false by rw [hD]; simp; omega)
    clear hD
    go_enter Tryd.func21, Tryd.ntmps21
    go_upto_region 1 with fail
    try rw [hW]
    try clear hW
    go_wp2_with fail
    go_ret
    exact ⟨ret_bool q.out.symm, hB⟩
  have q := Lib.hid (show fewMx m = true by rw [hD]; simp; omega)
  clear hD
  go_enter Tryd.func21, Tryd.ntmps21
  go_upto_region 1 with fail
  try rw [hW]
  try clear hW
  go_wp2_with fail
  go_ret
  exact ⟨ret_bool q.out.symm, hB⟩
def fewTn (t : Tn) : Bool := decide (t.l.length ≤ 6) && (decide (t.r.length ≤ 7) && (decide (t.rl.length ≤ 7) && (decide (t.rr.length ≤ 7) && decide (t.s.length ≤ 7))))
set_option maxRecDepth 100000 in
set_option maxHeartbeats 2000000 in
theorem fewturn_any (t : Tn) (x : TnA) (w : World) :
    Calls Tryd.prog 11 #[.agg (x.cells t).toArray] w fun e w' => e = .returned (.bool (fewTn t)) ∧ Below w.heap.size w w' := by
  have hD : fewTn t = (decide (t.l.length ≤ 6) && (decide (t.r.length ≤ 7) && (decide (t.rl.length ≤ 7) && (decide (t.rr.length ≤ 7) && decide (t.s.length ≤ 7))))) := rfl
  have hB := below_alloc' w (.cells (x.cells t).toArray 26)
  have r0 := Row.new w 26 (x.cells t)
  obtain ⟨al, cl, ar, cr, arl, crl, arr, crr, at_, ct⟩ := x
  unfold TnA.cells at hB r0 ⊢
  simp only at hB r0 ⊢
  obtain ⟨W, hW⟩ : ∃ W, w.alloc (.cells #[.slice al t.l.length cl, .slice ar t.r.length cr, .slice arl t.rl.length crl, .slice arr t.rr.length crr, .slice at_ t.s.length ct] 26) = W := ⟨_, rfl⟩
  replace r0 : Row W w.heap.size 26 [.slice al t.l.length cl, .slice ar t.r.length cr, .slice arl t.rl.length crl, .slice arr t.rr.length crr, .slice at_ t.s.length ct] := hW ▸ r0
  replace hB : Below w.heap.size w W := hW ▸ hB
  have c0 : W.cell? ⟨w.heap.size, 0, none⟩ = some _ := r0.cell 0
  have c1 : W.cell? ⟨w.heap.size, 1, none⟩ = some _ := r0.cell 1
  have c2 : W.cell? ⟨w.heap.size, 2, none⟩ = some _ := r0.cell 2
  have c3 : W.cell? ⟨w.heap.size, 3, none⟩ = some _ := r0.cell 3
  have c4 : W.cell? ⟨w.heap.size, 4, none⟩ = some _ := r0.cell 4
  clear r0
  by_cases f0 : (t.l.length : Int) ≤ 6
  rotate_left 1
  · have q := Lib.hid (show fewTn t = false by rw [hD]; simp; omega)
    clear hD
    go_enter Tryd.func11, Tryd.ntmps11
    go_upto_region 1 with fail
    try rw [hW]
    try clear hW
    go_wp2_with fail
    go_ret
    exact ⟨ret_bool q.out.symm, hB⟩
  by_cases f1 : (t.r.length : Int) ≤ 7
  rotate_left 1
  · have q := Lib.hid (show fewTn t = false by rw [hD]; simp; omega)
    clear hD
    go_enter Tryd.func11, Tryd.ntmps11
    go_upto_region 1 with fail
    try rw [hW]
    try clear hW
    go_wp2_with fail
    go_ret
    exact ⟨ret_bool q.out.symm, hB⟩
  by_cases f2 : (t.rl.length : Int) ≤ 7
  rotate_left 1
  · have q := Lib.hid (show fewTn t = false by rw [hD]; simp; omega)
    clear hD
    go_enter Tryd.func11, Tryd.ntmps11
    go_upto_region 1 with fail
    try rw [hW]
    try clear hW
    go_wp2_with fail
    go_ret
    exact ⟨ret_bool q.out.symm, hB⟩
  by_cases f3 : (t.rr.length : Int) ≤ 7
  rotate_left 1
  · have q := Lib.hid (show fewTn t = false by rw [hD]; simp; omega)
    clear hD
    go_enter Tryd.func11, Tryd.ntmps11
    go_upto_region 1 with fail
    try rw [hW]
    try clear hW
    go_wp2_with fail
    go_ret
    exact ⟨ret_bool q.out.symm, hB⟩
  by_cases f4 : (t.s.length : Int) ≤ 7
  rotate_left 1
  · have q := Lib.hid (show fewTn t = false by rw [hD]; simp; omega)
    clear hD
    go_enter Tryd.func11, Tryd.ntmps11
    go_upto_region 1 with fail
    try rw [hW]
    try clear hW
    go_wp2_with fail
    go_ret
    exact ⟨ret_bool q.out.symm, hB⟩
  have q := Lib.hid (show fewTn t = true by rw [hD]; simp; omega)
  clear hD
  go_enter Tryd.func11, Tryd.ntmps11
  go_upto_region 1 with fail
  try rw [hW]
  try clear hW
  go_wp2_with fail
  go_ret
  exact ⟨ret_bool q.out.symm, hB⟩
def fewOg (a b : Nat) : Bool := decide (a ≤ 7) && decide (b ≤ 7)
set_option maxRecDepth 100000 in
set_option maxHeartbeats 2000000 in
theorem fewopened_any (a b : Nat) (A A1 : Option Addr) (c c1 : Nat) (w : World) :
    Calls Tryd.prog 12 #[.slice A a c, .slice A1 b c1] w fun e w' => e = .returned (.bool (fewOg a b)) ∧ Below w.heap.size w w' := by
  have hD : fewOg a b = (decide (a ≤ 7) && decide (b ≤ 7)) := rfl
  have hB := Below.refl w.heap.size w
  by_cases f0 : (a : Int) ≤ 7
  rotate_left 1
  · have q := Lib.hid (show fewOg a b = false by rw [hD]; simp; omega)
    clear hD
    go_enter Tryd.func12, Tryd.ntmps12
    go_upto_region 1 with fail
    try rw [hW]
    try clear hW
    go_wp2_with fail
    go_ret
    exact ⟨ret_bool q.out.symm, hB⟩
  by_cases f1 : (b : Int) ≤ 7
  rotate_left 1
  · have q := Lib.hid (show fewOg a b = false by rw [hD]; simp; omega)
    clear hD
    go_enter Tryd.func12, Tryd.ntmps12
    go_upto_region 1 with fail
    try rw [hW]
    try clear hW
    go_wp2_with fail
    go_ret
    exact ⟨ret_bool q.out.symm, hB⟩
  have q := Lib.hid (show fewOg a b = true by rw [hD]; simp; omega)
  clear hD
  go_enter Tryd.func12, Tryd.ntmps12
  go_upto_region 1 with fail
  try rw [hW]
  try clear hW
  go_wp2_with fail
  go_ret
  exact ⟨ret_bool q.out.symm, hB⟩
def longMx (m : Mx) (n n1 n2 : Nat) : Bool := decide (m.i.length = n) && (decide (m.o.length = n) && (decide (n1 = n) && decide (n2 = n)))
set_option maxRecDepth 100000 in
set_option maxHeartbeats 2000000 in
theorem long_any (m : Mx) (x : MxA) (n n1 n2 : Nat) (A A1 A2 : Option Addr) (c c1 c2 : Nat) (w : World) :
    Calls Tryd.prog 24 #[.agg (x.cells m).toArray, .slice A n c, .slice A1 n1 c1, .slice A2 n2 c2] w fun e w' => e = .returned (.bool (longMx m n n1 n2)) ∧ Below w.heap.size w w' := by
  have hD : longMx m n n1 n2 = (decide (m.i.length = n) && (decide (m.o.length = n) && (decide (n1 = n) && decide (n2 = n)))) := rfl
  have hB := below_alloc' w (.cells (x.cells m).toArray 45)
  have r0 := Row.new w 45 (x.cells m)
  obtain ⟨ai, ci, am, cm, ao, co, al, cl, ar, cr⟩ := x
  unfold MxA.cells at hB r0 ⊢
  simp only at hB r0 ⊢
  obtain ⟨W, hW⟩ : ∃ W, w.alloc (.cells #[.slice ai m.i.length ci, .slice am m.m.length cm, .slice ao m.o.length co, .slice al m.l.length cl, .slice ar m.r.length cr] 45) = W := ⟨_, rfl⟩
  replace r0 : Row W w.heap.size 45 [.slice ai m.i.length ci, .slice am m.m.length cm, .slice ao m.o.length co, .slice al m.l.length cl, .slice ar m.r.length cr] := hW ▸ r0
  replace hB : Below w.heap.size w W := hW ▸ hB
  have c0 : W.cell? ⟨w.heap.size, 0, none⟩ = some _ := r0.cell 0
  have c1 : W.cell? ⟨w.heap.size, 1, none⟩ = some _ := r0.cell 1
  have c2 : W.cell? ⟨w.heap.size, 2, none⟩ = some _ := r0.cell 2
  have c3 : W.cell? ⟨w.heap.size, 3, none⟩ = some _ := r0.cell 3
  have c4 : W.cell? ⟨w.heap.size, 4, none⟩ = some _ := r0.cell 4
  clear r0
  by_cases f0 : (m.i.length : Int) = n
  rotate_left 1
  · have q := Lib.hid (show longMx m n n1 n2 = false by rw [hD]; simp; omega)
    clear hD
    go_enter Tryd.func24, Tryd.ntmps24
    go_upto_region 1 with fail
    try rw [hW]
    try clear hW
    go_wp2_with fail
    go_ret
    exact ⟨ret_bool q.out.symm, hB⟩
  by_cases f1 : (m.o.length : Int) = n
  rotate_left 1
  · have q := Lib.hid (show longMx m n n1 n2 = false by rw [hD]; simp; omega)
    clear hD
    go_enter Tryd.func24, Tryd.ntmps24
    go_upto_region 1 with fail
    try rw [hW]
    try clear hW
    go_wp2_with fail
    go_ret
    exact ⟨ret_bool q.out.symm, hB⟩
  by_cases f2 : (n1 : Int) = n
  rotate_left 1
  · have q := Lib.hid (show longMx m n n1 n2 = false by rw [hD]; simp; omega)
    clear hD
    go_enter Tryd.func24, Tryd.ntmps24
    go_upto_region 1 with fail
    try rw [hW]
    try clear hW
    go_wp2_with fail
    go_ret
    exact ⟨ret_bool q.out.symm, hB⟩
  by_cases f3 : (n2 : Int) = n
  rotate_left 1
  · have q := Lib.hid (show longMx m n n1 n2 = false by rw [hD]; simp; omega)
    have sN : ((n2 : Int) == n) = false := by simp; omega
    clear hD
    go_enter Tryd.func24, Tryd.ntmps24
    go_upto_region 1 with fail
    try rw [hW]
    try clear hW
    go_wp2_with fail
    go_ret
    exact ⟨ret_bool q.out.symm, hB⟩
  have q := Lib.hid (show longMx m n n1 n2 = true by rw [hD]; simp; omega)
  clear hD
  go_enter Tryd.func24, Tryd.ntmps24
  go_upto_region 1 with fail
  try rw [hW]
  try clear hW
  go_wp2_with fail
  go_ret
  exact ⟨ret_bool q.out.symm, hB⟩
theorem opp_snoc (bits : List Int) {k : Nat} (h : k < bits.length) : opp (bits.take (k + 1)) = opp (bits.take k) ++ [1 - bits.getD k default] := by
  unfold opp
  rw [List.take_succ_eq_append_getElem h, List.map_append, getD_eq_getElem' h]
  rfl
theorem opp_take_length (bits : List Int) {k : Nat} (h : k ≤ bits.length) : (opp (bits.take k)).length = k := by simp [opp]; omega
set_option maxRecDepth 100000 in
set_option maxHeartbeats 2000000 in
/-- opposite bits; the numbers are not near the ends -/
theorem opposite_any (bits : List Int) (v : Value) (w : World) (h : SlI w w.heap.size v bits) (hb : bits.length ≤ 1000000) (hi64 : ∀ i, i < bits.length → -9223372036854775806 ≤ bits.getD i default ∧ bits.getD i default ≤ 9223372036854775807) :
    Calls Tryd.prog 23 #[v] w fun e w' => ∃ v2, e = .returned v2 ∧ Below w.heap.size w w' ∧ SlI w' w'.heap.size v2 (opp bits) := by
  have HS := Lib.hid h
  obtain ⟨_, A, c, rfl, _⟩ := h
  obtain ⟨i0, hi, hz0, hz1, hz2⟩ := info_parts infoI1
  have HI := Lib.hid hi64
  clear hi64
  go_enter Tryd.func23, Tryd.ntmps23
  go_wp2
  go_loopg [2, 7] bits.length (fun g a i wr => ∃ k : Nat, i = .int .i64 k ∧ k + g = bits.length ∧ Below w.heap.size w wr ∧ ownI w.heap.size wr a (opp (bits.take k)))
  case atStart => exact ⟨0, rfl, by omega, Below.refl _ _, World.ownsRow_nil _ _ _ _⟩
  case round =>
    obtain ⟨k, rfl, hk, hBr, hown⟩ := hrel
    have hlen := opp_take_length bits (k := k) (by omega)
    by_cases hlt : k < bits.length
    · obtain ⟨b0, o0, e0, hb0, d0⟩ := sl_at (HS.out.below hBr) hlt
      subst e0
      have f0 := d0 0 (by omega)
      simp only [encI, List.getD_cons_zero, Nat.add_zero, Nat.mul_one] at f0
      have hsn := opp_snoc bits hlt
      have h64 := HI.out k hlt
      generalize bits.getD k default = x at *
      have s1 : (0 : Int) ≤ k := by omega
      have s2 : (k : Int) < bits.length := by omega
      have sw : IntKind.i64.wrap (1 - x) = 1 - x := IntWalk.i64_in _ (by omega)
      obtain ⟨L, hL⟩ : ∃ L, opp (bits.take k) = L := ⟨_, rfl⟩
      rw [hL] at hown hsn hlen
      clear hL d0 h64
      have hz := hBr.size
      have HSN := Lib.hid hsn
      clear hsn
      obtain ⟨y, hy⟩ : ∃ y, 1 - x = y := ⟨_, rfl⟩
      rw [hy] at sw HSN
      go_wp2_with (first
        | (at_builtin; refine wpList_append_lies _ rfl _ _ 22 rfl w.heap.size 3 i0 (.int .i64 0) 1 8 Tryd.underlying22 hi hz0 hz1 hz2 rfl (by decide) _ _ _ rfl (World.ownsRow.alloc hown _) ⟨wr.heap.size, 0, none⟩ 1 1 [.int .i64 y] rfl rfl (by first | exact news_row (Row.new wr 3 [.int .i64 y]) | (rw [hy, sw]; exact news_row (Row.new wr 3 [.int .i64 y])) | (rw [sw]; exact news_row (Row.new wr 3 [.int .i64 y]))) (by simp [Value.oneCell']) (by decide) (by unfold maxLen; omega) (by omega) (by rw [World.size_alloc]; omega) _ rfl ?_; intro g3 cap3 w3 hown3 hgr hat hlt3))
      go_roundg (gk - 1)
      case measure => omega
      case rel =>
        refine ⟨k + 1, by first | rfl | go_num, by omega, (hBr.alloc hz _).grown hgr (by rw [World.size_alloc]; omega) (fun r e => (hown.lt r e).1), ?_⟩
        rw [HSN.out]
        unfold ownI
        rw [List.length_append, List.map_append]
        rw [hlen] at hown3 ⊢
        exact hown3
    · obtain rfl : k = bits.length := by omega
      rw [List.take_length] at hown hlen
      have r8 : SlI wr wr.heap.size u2 (opp bits) := own_slM (n := (opp bits).length) (by rw [flat_ints]; exact hown) (fun _ _ => rfl) rfl (by omega)
      have R8 := Lib.hid r8
      clear r8 hlen hown
      go_wp2
      go_ret
      exact ⟨_, rfl, hBr, R8.out⟩
end Go.Proofs.YthboebhghaabnaaDoor

set_option linter.unusedSimpArgs false
set_option linter.unusedVariables false
namespace Go.Proofs.YthboebhghaabnaaDoor
open Go.RowKit Fk Sha
/-! Each letter is itself, sealed again: the law's own test. -/
theorem sealed_at {key : Int} {m : Mx} {bits : List Int} {l o : List Og} (h : Chk key m bits l) (k : Chk key m (opp bits) o) (hw : wholeB bits l o = true) {j : Nat} (hj : j < m.i.length) {L R : Og} (hL : leftOg bits l o j = L) (hR : rightOg bits l o j = R) :
    ((0 ≤ L.a ∧ L.a < m.i.length) ∧ (0 ≤ R.a ∧ R.a < m.i.length)) ∧ (wholeC bits l o).getD L.a.toNat default = R.a ∧ (againC key (m.i.getD L.a.toNat default) L.r = m.m.getD j default ∧ againE key (m.i.getD L.a.toNat default) = 0) ∧
      (againC key (m.m.getD j default) R.r = m.o.getD R.a.toNat default ∧ againE key (m.m.getD j default) = 0) := by
  have h1 := left_in h k hj
  have h2 := right_in h k hj
  have h3 := (whole_perm hw).2.2 j (by rw [h.lb]; exact hj)
  have h4 := left_sealed h k hj
  have h5 := right_sealed h k hj
  rw [← leftOg_a, hL] at h1 h3 h4
  rw [← rightOg_a, hR] at h2 h3 h5
  have e : ∀ s : Se, okS s = true → againE key s = 0 := fun s hs => by unfold againE chS; rw [h.ky, hs]; rfl
  exact ⟨⟨h1, h2⟩, h3, ⟨h4, e _ (List.all_eq_true.1 h.fi _ (mem_getD (by omega)))⟩, ⟨h5, e _ (List.all_eq_true.1 h.fm _ (mem_getD (by rw [h.lm]; exact hj)))⟩⟩
set_option maxRecDepth 100000 in
set_option maxHeartbeats 8000000 in
theorem sealed_any (key : Int) (m : Mx) (x : MxA) (bits : List Int) (l o : List Og) (v0 v1 v2 v3 : Value) (w : World) (h : Chk key m bits l) (h2 : Chk key m (opp bits) o) (hw : wholeB bits l o = true)
    (hm : MxS w w.heap.size x m) (hb : SlI w w.heap.size v0 bits) (hl : SlG 36 Og.cells w w.heap.size v1 l) (ho : SlG 36 Og.cells w w.heap.size v2 o) (hp : SlI w w.heap.size v3 (wholeC bits l o))
    (hlo : ∀ i, i < l.length → (l.getD i default).s.length = 32) (hoo : ∀ i, i < o.length → (o.getD i default).s.length = 32) :
    Calls Tryd.prog 26 #[.int .i64 key, .agg (x.cells m).toArray, v0, v1, v2, v3] w fun e w' => e = .returned (.bool true) ∧ Below w.heap.size w w' := by
  have hB := below_alloc' w (.cells (x.cells m).toArray 45)
  have r0 := Row.new w 45 (x.cells m)
  have SA := Lib.hid (fun j hj L R hL hR => @sealed_at key m bits l o h h2 hw j hj L R hL hR)
  have hn : bits.length = m.i.length := h.lb
  have hnl : l.length = m.i.length := h.lg
  have hno : o.length = m.i.length := h2.lg
  have hno2 : m.o.length = m.i.length := h.lo
  have hpl : (wholeC bits l o).length = m.i.length := by rw [(whole_perm hw).2.1, hn]
  have hbit := fun j (hj : j < m.i.length) => bit_at h.bit (j := j) (by rw [hn]; exact hj)
  have hle : m.i.length ≤ 64 := h.few
  obtain ⟨W, hW⟩ : ∃ W, w.alloc (.cells (x.cells m).toArray 45) = W := ⟨_, rfl⟩
  replace r0 : Row W w.heap.size 45 (x.cells m) := hW ▸ r0
  replace hB : Below w.heap.size w W := hW ▸ hB
  have HM := Lib.hid (hm.below hB)
  have HS := Lib.hid (hb.below hB)
  have HL := Lib.hid (hl.below hB)
  have HO := Lib.hid (ho.below hB)
  have HP := Lib.hid (hp.below hB)
  obtain ⟨_, A0, c0, rfl, _⟩ := hb
  obtain ⟨_, A1, c1, rfl, _⟩ := hl
  obtain ⟨_, A2, c2, rfl, _⟩ := ho
  obtain ⟨_, A3, c3, rfl, _⟩ := hp
  obtain ⟨X, hX⟩ : ∃ X, wholeC bits l o = X := ⟨_, rfl⟩
  rw [hX] at HP SA hpl ⊢
  have HN := Lib.hid (And.intro hn (And.intro hnl (And.intro hno (And.intro hno2 hpl))))
  have HBT := Lib.hid hbit
  have HLO := Lib.hid hlo
  have HOO := Lib.hid hoo
  have hbl : bits.length ≤ 64 := by omega
  clear hX h h2 hw hm hn hnl hno hno2 hpl hbit hlo hoo hle
  obtain ⟨ai, ci, am, cm, ao, co, al, cl, ar, cr⟩ := x
  unfold MxA.cells at r0 hW ⊢
  simp only at r0 hW ⊢
  replace hW : w.alloc (.cells #[.slice ai m.i.length ci, .slice am m.m.length cm, .slice ao m.o.length co, .slice al m.l.length cl, .slice ar m.r.length cr] 45) = W := hW
  have hlt := r0.lt
  go_enter Tryd.func26, Tryd.ntmps26
  go_upto_region 1 with fail
  try rw [hW]
  clear hW
  go_wp2_with fail
  go_loopg [22] bits.length (fun g i wr => ∃ k : Nat, i = .int .i64 k ∧ k + g = bits.length ∧ Below W.heap.size W wr)
  case atStart => exact ⟨0, rfl, by omega, Below.refl _ _⟩
  case round =>
    obtain ⟨k, rfl, hk, hBr⟩ := hrel
    by_cases hlt2 : k < bits.length
    · have hz := hB.size
      have hz2 := hBr.size
      have HB2 := Lib.hid (hBr.mono hz)
      obtain ⟨b0, o0, e0, hb0, d0⟩ := sl_at (HS.out.below HB2.out) hlt2
      obtain ⟨b1, o1, e1, hb1, d1⟩ := sl_at (HL.out.below HB2.out) (j := k) (by have := HN.out; omega)
      obtain ⟨b2, o2, e2, hb2, d2⟩ := sl_at (HO.out.below HB2.out) (j := k) (by have := HN.out; omega)
      subst e0 e1 e2
      have f0 := d0 0 (by omega)
      simp only [encI, List.getD_cons_zero, Nat.add_zero, Nat.mul_one] at f0
      have hp36 := HLO.out k (by have := HN.out; omega)
      have hq36 := HOO.out k (by have := HN.out; omega)
      have hbt := HBT.out k (by have := HN.out; omega)
      have hsa := fun L R hL hR => SA.out k (by have := HN.out; omega) L R hL hR
      have hLd : leftOg bits l o k = if bits.getD k default = 0 then l.getD k default else o.getD k default := rfl
      have hRd : rightOg bits l o k = if bits.getD k default = 0 then o.getD k default else l.getD k default := rfl
      have hrgp : wr.rangeAt b1 (o1 + k * 36) (l.getD k default).cells := range_sl d1 (og_len hp36)
      have hrgq : wr.rangeAt b2 (o2 + k * 36) (o.getD k default).cells := range_sl d2 (og_len hq36)
      generalize bits.getD k default = bt at *
      generalize l.getD k default = p at *
      generalize o.getD k default = q at *
      have s1 : (0 : Int) ≤ k := by omega
      have s2 : (k : Int) < bits.length := by omega
      have s3 : (k : Int) < l.length := by have := HN.out; omega
      have s4 : (k : Int) < o.length := by have := HN.out; omega
      have hb1l : b1 < wr.heap.size := by omega
      have hb2l : b2 < wr.heap.size := by omega
      have hb0l : b0 < wr.heap.size := by omega
      have hpc : p.cells.length = 36 := og_len hp36
      have hqc : q.cells.length = 36 := og_len hq36
      have HSA := Lib.hid hsa
      have HLd := Lib.hid hLd
      have HRd := Lib.hid hRd
      have HF0 := Lib.hid f0
      clear d0 d1 d2 hsa hLd hRd f0
      go_upto_region 4 with fail
      go_cut [14, 15] from 25 to 32 (fun a b W' => ∃ G1 G2, a = .pointer (some ⟨G1, 0, none⟩) ∧ b = .pointer (some ⟨G2, 0, none⟩) ∧ Below wr.heap.size wr W' ∧ Row W' G1 60 p.cells ∧ Row W' G2 60 q.cells ∧ G1 ≠ G2 ∧ wr.heap.size ≤ G1 ∧ wr.heap.size ≤ G2)
      case first =>
        have hS : ∀ w', Below wr.heap.size wr w' → w'.rangeAt b1 (o1 + k * 36) p.cells ∧ w'.rangeAt b2 (o2 + k * 36) q.cells := fun w' hb' => ⟨range_below hrgp hb' hb1l, range_below hrgq hb' hb2l⟩
        refine wp_region_tree 11 (.take 0 (.take 1 (.take 2 (.take 3 (.take 4 (.take 5 (.take 6 (.take 7 (.two 8 (.one 9 (.one 10 .done)) 9 (.one 8 (.one 10 .done)))))))))))
          (fun w' => w'.rangeAt b1 (o1 + k * 36) p.cells ∧ w'.rangeAt b2 (o2 + k * 36) q.cells) (by kernel_rfl) (by kernel_rfl) (fun _ _ d _ _ h => by cases d <;> exact h) (hS _ (Below.refl _ _).drew) ?_
        have hB1 : Below wr.heap.size wr wr.drew := (Below.refl _ _).drew
        have hz1 : wr.drew.heap.size = wr.heap.size := rfl
        have HSS := Lib.hid hS
        clear hS hrgp hrgq
        generalize wr.drew = W1 at *
        iterate 3
          refine wpTree_take (v := ?_) rfl (by kernel_rfl) (fun w hSw => ?_) ?_
          rotate_left 1
          · go_simp
            with_reducible rfl
          simp only [Act.put, List.setIfInBounds_toArray, List.set_cons_zero, List.set_cons_succ]
        refine wpTree_take (v := .agg p.cells.toArray) rfl (by kernel_rfl) (fun w hSw => exec_load (ty := 60) (x := .tmp 27) (p := .pointer (some ⟨b1, o1 + k * 36, none⟩)) (by kernel_rfl) (by kernel_rfl) (run_loadAt_mid w b1 (o1 + k * 36) 60 p.cells _ hSw.1 Tryd.underlying60 rfl (sizeOg hp36))) ?_
        simp only [Act.put, List.setIfInBounds_toArray, List.set_cons_zero, List.set_cons_succ]
        iterate 3
          refine wpTree_take (v := ?_) rfl (by kernel_rfl) (fun w hSw => ?_) ?_
          rotate_left 1
          · go_simp
            with_reducible rfl
          simp only [Act.put, List.setIfInBounds_toArray, List.set_cons_zero, List.set_cons_succ]
        refine wpTree_take (v := .agg q.cells.toArray) rfl (by kernel_rfl) (fun w hSw => exec_load (ty := 60) (x := .tmp 31) (p := .pointer (some ⟨b2, o2 + k * 36, none⟩)) (by kernel_rfl) (by kernel_rfl) (run_loadAt_mid w b2 (o2 + k * 36) 60 q.cells _ hSw.2 Tryd.underlying60 rfl (sizeOg hq36))) ?_
        simp only [Act.put, List.setIfInBounds_toArray, List.set_cons_zero, List.set_cons_succ]
        refine wpTree_two rfl rfl (fun K hK => ⟨by kernel_rfl, ?_⟩) (fun K hK => ⟨by kernel_rfl, ?_⟩)
        all_goals
          go_simp
          have hBa := hB1.alloc (Nat.le_of_eq hz1.symm) (.cells zOgC.toArray 60)
          have hBb := hBa.alloc (by rw [World.size_alloc]; omega) (.cells zOgC.toArray 60)
          have ra := Row.alloc (Row.new W1 60 zOgC) (.cells zOgC.toArray 60)
          have rb : Row ((W1.alloc (.cells zOgC.toArray 60)).alloc (.cells zOgC.toArray 60)) (W1.heap.size + 1) 60 zOgC := by have := Row.new (W1.alloc (.cells zOgC.toArray 60)) 60 zOgC; rwa [World.size_alloc] at this
          refine hK _ _ (HSS.out _ hBa) ?_
          clear hK K
          try simp only [Act.put, List.setIfInBounds_toArray, List.set_cons_zero, List.set_cons_succ]
          refine wpTree_one rfl (fun K hK => ⟨by kernel_rfl, ?_⟩)
          go_simp
          refine hK _ _ (HSS.out _ hBb) ?_
          clear hK K
          try simp only [Act.put, List.setIfInBounds_toArray, List.set_cons_zero, List.set_cons_succ]
          obtain ⟨W2, hW2⟩ : ∃ W2, (W1.alloc (.cells zOgC.toArray 60)).alloc (.cells zOgC.toArray 60) = W2 := ⟨_, rfl⟩
          rw [hW2] at ra rb hBb
          change wpTree _ _ _ _ _ _ _ ((W1.alloc (.cells zOgC.toArray 60)).alloc (.cells zOgC.toArray 60))
          rw [hW2]
          clear hW2 hBa
          rw [hz1] at ra rb
        · have r1 := ra
          have r2 := rb
          have hst1 := store_og p.cells (og_len hp36) (og_one p) r1 (by simp [zOgC])
          refine wpTree_one rfl (fun K hK => ⟨by kernel_rfl, ?_⟩)
          go_simp
          refine hK _ _ (HSS.out _ (below_setRow (g := wr.heap.size) hBb (by omega) _)) ?_
          clear hK K
          try simp only [Act.put, List.setIfInBounds_toArray, List.set_cons_zero, List.set_cons_succ]
          refine wpTree_done ?_
          simp only [List.drop_succ_cons, List.drop_zero]
          have k1 : Row (W2.setRow (wr.heap.size) p.cells.toArray) (wr.heap.size) 60 p.cells := setRow_heap W2 _ _ _ _ _ r1
          have k2 := Row.setRow_other r2 (g := wr.heap.size) (by omega) p.cells.toArray
          have hB3 := below_setRow (g := wr.heap.size) hBb (by omega) p.cells.toArray
          generalize W2.setRow (wr.heap.size) p.cells.toArray = W3 at *
          have hst2 := store_og q.cells (og_len hq36) (og_one q) k2 (by simp [zOgC])
          have m1 : Row (W3.setRow (wr.heap.size + 1) q.cells.toArray) (wr.heap.size) 60 p.cells := Row.setRow_other k1 (by omega) _
          have m2 : Row (W3.setRow (wr.heap.size + 1) q.cells.toArray) (wr.heap.size + 1) 60 q.cells := setRow_heap W3 _ _ _ _ _ k2
          have hB4 := below_setRow (g := wr.heap.size + 1) hB3 (by omega) q.cells.toArray
          have FIN := Lib.hid (And.intro hB4 (And.intro m1 m2))
          clear m1 m2 hB4 hB3 k1 k2 r1 r2 ra rb hst1 hBb hB1
          go_wp2_with fail
          go_meet
          case rel => exact ⟨_, _, rfl, rfl, FIN.out.1, FIN.out.2.1, FIN.out.2.2, by omega, by omega, by omega⟩
        · have r1 := rb
          have r2 := ra
          have hst1 := store_og p.cells (og_len hp36) (og_one p) r1 (by simp [zOgC])
          refine wpTree_one rfl (fun K hK => ⟨by kernel_rfl, ?_⟩)
          go_simp
          refine hK _ _ (HSS.out _ (below_setRow (g := wr.heap.size + 1) hBb (by omega) _)) ?_
          clear hK K
          try simp only [Act.put, List.setIfInBounds_toArray, List.set_cons_zero, List.set_cons_succ]
          refine wpTree_done ?_
          simp only [List.drop_succ_cons, List.drop_zero]
          have k1 : Row (W2.setRow (wr.heap.size + 1) p.cells.toArray) (wr.heap.size + 1) 60 p.cells := setRow_heap W2 _ _ _ _ _ r1
          have k2 := Row.setRow_other r2 (g := wr.heap.size + 1) (by omega) p.cells.toArray
          have hB3 := below_setRow (g := wr.heap.size + 1) hBb (by omega) p.cells.toArray
          generalize W2.setRow (wr.heap.size + 1) p.cells.toArray = W3 at *
          have hst2 := store_og q.cells (og_len hq36) (og_one q) k2 (by simp [zOgC])
          have m1 : Row (W3.setRow (wr.heap.size) q.cells.toArray) (wr.heap.size + 1) 60 p.cells := Row.setRow_other k1 (by omega) _
          have m2 : Row (W3.setRow (wr.heap.size) q.cells.toArray) (wr.heap.size) 60 q.cells := setRow_heap W3 _ _ _ _ _ k2
          have hB4 := below_setRow (g := wr.heap.size) hB3 (by omega) q.cells.toArray
          have FIN := Lib.hid (And.intro hB4 (And.intro m1 m2))
          clear m1 m2 hB4 hB3 k1 k2 r1 r2 ra rb hst1 hBb hB1
          go_wp2_with fail
          go_meet
          case rel => exact ⟨_, _, rfl, rfl, FIN.out.1, FIN.out.2.1, FIN.out.2.2, by omega, by omega, by omega⟩
      case rest =>
        obtain ⟨G1, G2, rfl, rfl, hb4, r1, r2, hne, hg1, hg2⟩ := hcut
        have f0 : wc.cell? ⟨b0, o0 + k, none⟩ = some (.int .i64 bt) := (hb4.cell (p := ⟨b0, o0 + k, none⟩) hb0l).trans HF0.out
        clear hrgp hrgq
        rcases hbt with rfl | rfl
        · have hL : leftOg bits l o k = p := by rw [HLd.out]; rfl
          have hR : rightOg bits l o k = q := by rw [HRd.out]; rfl
          obtain ⟨Wz, hWz⟩ : ∃ Wz, wc = Wz := ⟨_, rfl⟩
          subst hWz
          have n1 := r1
          have n2 := r2
          have hbz := hb4
          clear r1 r2 hb4
          go_upto_region 7 with fail
          obtain ⟨Wz, hWz⟩ : ∃ Wz, wc = Wz := ⟨_, rfl⟩
          rw [hWz] at n1 n2 hbz f0 ⊢
          clear hWz
          have FA := HSA.out p q hL hR
          obtain ⟨⟨⟨l1, l2⟩, ⟨l3, l4⟩⟩, l5, ⟨l6, l7⟩, ⟨l8, l9⟩⟩ := FA
          have g1c : Wz.cell? ⟨G1, 0, none⟩ = some (.int .i64 p.a) := n1.cell 0
          have g2c : Wz.cell? ⟨G2, 0, none⟩ = some (.int .i64 q.a) := n2.cell 0
          have g2p : Wz.cell? ⟨G2, 1, none⟩ = some (.int .i64 q.r.p) := n2.cell 1
          have rg1 := fun (W' : World) (hr : Row W' G1 60 p.cells) => (show W'.rangeAt G1 1 (Tr.cells p.r) from fun j v hj => by
            have hj3 : j < 3 := (List.getElem?_eq_some_iff.1 hj).1
            rw [hr.cell]
            rcases (show j = 0 ∨ j = 1 ∨ j = 2 by omega) with rfl | rfl | rfl <;> exact hj)
          have cg1 := fun (W' : World) (hr : Row W' G1 60 p.cells) => (show W'.cell? ⟨G1, 0, none⟩ = some (.int .i64 p.a) from hr.cell 0)
          have cg2 := fun (W' : World) (hr : Row W' G2 60 q.cells) => (show W'.cell? ⟨G2, 0, none⟩ = some (.int .i64 q.a) ∧ W'.cell? ⟨G2, 1, none⟩ = some (.int .i64 q.r.p) ∧ W'.cell? ⟨G2, 2, none⟩ = some (.int .i64 q.r.q) ∧ W'.cell? ⟨G2, 3, none⟩ = some (.int .i64 q.r.r) from ⟨hr.cell 0, hr.cell 1, hr.cell 2, hr.cell 3⟩)
          have hla : ∃ la : Nat, p.a = la := ⟨p.a.toNat, by omega⟩
          have hra : ∃ ra : Nat, q.a = ra := ⟨q.a.toNat, by omega⟩
          obtain ⟨Lr, hLr⟩ : ∃ Lr, p.r = Lr := ⟨_, rfl⟩
          obtain ⟨Rr, hRr⟩ : ∃ Rr, q.r = Rr := ⟨_, rfl⟩
          obtain ⟨LC, hLC⟩ : ∃ LC, p.cells = LC := ⟨_, rfl⟩
          obtain ⟨RC, hRC⟩ : ∃ RC, q.cells = RC := ⟨_, rfl⟩
          obtain ⟨la, hla⟩ := hla
          obtain ⟨ra, hra⟩ := hra
          rw [hLC] at n1 rg1 cg1
          rw [hRC] at n2 cg2
          rw [hLr] at rg1 l6
          rw [hRr] at l8 g2p cg2
          rw [hla] at l1 l2 l5 l6 l7 g1c cg1
          rw [hra] at l3 l4 l5 l8 g2c cg2
          simp only [Int.toNat_natCast] at l5 l6 l7 l8
          clear hLr hRr hLC hRC hla hra hL hR
          have hBz : Below W.heap.size W Wz := hBr.trans (hbz.mono hBr.size)
          obtain ⟨bp, op, ep, hbp, dp⟩ := sl_at (HP.out.below (hBz.mono hz)) (j := la) (by have := HN.out; omega)
          subst ep
          have fp := dp 0 (by omega)
          simp only [encI, l5, List.getD_cons_zero, Nat.add_zero, Nat.mul_one] at fp
          obtain ⟨bi, oi, ei, hbi, di⟩ := sl_at (HM.out.i.below (hBz.mono hz)) (j := la) (by omega)
          obtain ⟨bo, oo, eo, hbo, dO⟩ := sl_at (HM.out.o.below (hBz.mono hz)) (j := ra) (by have := HN.out; omega)
          simp only at ei eo
          subst ei eo
          have hri : Wz.rangeAt bi (oi + la * 6) (encS (m.i.getD la default)) := range_sl di rfl
          have hro : Wz.rangeAt bo (oo + ra * 6) (encS (m.o.getD ra default)) := range_sl dO rfl
          obtain ⟨Xi, hXi⟩ : ∃ Xi, m.i.getD la default = Xi := ⟨_, rfl⟩
          obtain ⟨Xo, hXo⟩ : ∃ Xo, m.o.getD ra default = Xo := ⟨_, rfl⟩
          obtain ⟨Xm, hXm⟩ : ∃ Xm, m.m.getD k default = Xm := ⟨_, rfl⟩
          rw [hXi] at hri l6 l7
          rw [hXo] at hro l8
          rw [hXm] at l6 l8 l9
          have qa := fun w => again_any key Xi Lr w
          have qb := fun w => again_any key Xm Rr w
          rw [l6, l7] at qa
          rw [l8, l9] at qb
          have bq : ∀ w, (Op.equalIn 10000 68 Xo.val Xo.val).run Tryd.prog w = .ok true w := fun w => by
            have := runS Xo Xo w
            rwa [eqSe_iff.2 rfl] at this
          unfold Se.val Tr.val at qa qb
          unfold Se.val at bq
          have QA := Lib.hid qa
          have QB := Lib.hid qb
          have s5 : (0 : Int) ≤ la := by omega
          have s6 : (la : Int) < bits.length := by have := HN.out; omega
          have s7 : (la : Int) < X.length := by have := HN.out; omega
          have s8 : (0 : Int) ≤ ra := by omega
          have s9 : (ra : Int) < bits.length := by have := HN.out; omega
          have t1 : decide ((la : Int) < 0) = false := decide_eq_false (by omega)
          have t2 : decide ((bits.length : Int) ≤ la) = false := decide_eq_false (by omega)
          have t3 : decide ((ra : Int) < 0) = false := decide_eq_false (by omega)
          have t4 : decide ((bits.length : Int) ≤ ra) = false := decide_eq_false (by omega)
          have t5 : ((ra : Int) != ra) = false := by simp
          have t6 : ((bits.length : Int) ≤ la) = False := by simp; omega
          have t7 : ((bits.length : Int) ≤ ra) = False := by simp; omega
          have hbiz : bi < Wz.heap.size := by have := hBz.size; omega
          have hboz : bo < Wz.heap.size := by have := hBz.size; omega
          have HRI := Lib.hid hri
          have HRO := Lib.hid hro
          clear dp di dO qa qb hXi hXo hXm l1 l3 l5 l6 l7 l8 l9
          go_cut [71] from 40 to 71 (fun v W' => v = .bool false ∧ Below Wz.heap.size Wz W')
          case first =>
            go_quiet (fail)
            go_wp2_with fail
            go_meet
            case rel => exact ⟨rfl, by first | exact Below.refl _ _ | exact below_drewN _ _ _⟩
          case rest =>
            obtain ⟨rfl, hb7⟩ := hcut
            have hC : ∀ W', Below Wz.heap.size Wz W' → (W'.cell? ⟨w.heap.size, 0, none⟩ = some (.slice (some ⟨bi, oi, none⟩) m.i.length ci) ∧ W'.cell? ⟨w.heap.size, 2, none⟩ = some (.slice (some ⟨bo, oo, none⟩) m.o.length co)) ∧ (W'.rangeAt bi (oi + la * 6) (encS Xi) ∧ W'.rangeAt bo (oo + ra * 6) (encS Xo)) ∧ Row W' G1 60 LC ∧ Row W' G2 60 RC := fun W' h =>
              have r0' := (r0.below hBz r0.lt).below h (r0.below hBz r0.lt).lt
              ⟨⟨r0'.cell 0, r0'.cell 2⟩, ⟨range_below HRI.out h hbiz, range_below HRO.out h hboz⟩, n1.below h n1.lt, n2.below h n2.lt⟩
            have HC := Lib.hid hC
            have CG1 := Lib.hid cg1
            have CG2 := Lib.hid cg2
            have RG1 := Lib.hid rg1
            have s10 : (la : Int) < m.i.length := by omega
            have s11 : (ra : Int) < m.o.length := by have := HN.out; omega
            clear hC cg1 cg2 rg1 t1 t2 t3 t4 t5 t6 t7 fp g1c g2c g2p l2 l4 n1 n2
            go_upto_region 9 with fail
            go_cut [16, 17] from 72 to 84 (fun a b W' => b = .int .i64 0 ∧ ∃ G3, a = .pointer (some ⟨G3, 0, none⟩) ∧ Below Wz.heap.size Wz W' ∧ Row W' G3 68 [.int .i64 Xm.x.a, .int .i64 Xm.x.b, .int .i64 Xm.y.a, .int .i64 Xm.y.b, .int .i64 Xm.z.a, .int .i64 Xm.z.b])
            case first =>
              refine wp_region_tree 15 (.take 0 (.take 1 (.take 2 (.take 3 (.take 4 (.take 5 (.take 6 (.take 7 (.take 8 (.two 9 (.take 10 (.take 11 (.take 12 (.one 13 (.one 14 .done))))) 13 (.one 9 (.take 10 (.take 11 (.take 12 (.one 14 .done)))))))))))))))
                (fun W' => Below Wz.heap.size Wz W') (by kernel_rfl) (by kernel_rfl) (fun _ _ d _ _ h => by cases d <;> exact h) hb7.drew ?_
              have hb := hb7.drew
              generalize wc.drew = V1 at *
              iterate 6
                refine wpTree_take (v := ?_) rfl (by kernel_rfl) (fun w hSw => ?_) ?_
                rotate_left 1
                · obtain ⟨⟨x0, x2⟩, _, y1, y2⟩ := HC.out _ hSw
                  have y0 := CG1.out _ y1
                  go_simp
                  with_reducible rfl
                simp only [Act.put, List.setIfInBounds_toArray, List.set_cons_zero, List.set_cons_succ]
              refine wpTree_take (v := .agg #[.int .i64 Xi.x.a, .int .i64 Xi.x.b, .int .i64 Xi.y.a, .int .i64 Xi.y.b, .int .i64 Xi.z.a, .int .i64 Xi.z.b]) rfl (by kernel_rfl) (fun w hSw => exec_load (ty := 68) (x := .tmp 78) (p := .pointer (some ⟨bi, oi + la * 6, none⟩)) (by kernel_rfl) (by kernel_rfl) (run_loadAt_mid w bi (oi + la * 6) 68 (encS Xi) _ (HC.out _ hSw).2.1.1 Tryd.underlying68 rfl (by kernel_rfl))) ?_
              simp only [Act.put, List.setIfInBounds_toArray, List.set_cons_zero, List.set_cons_succ]
              refine wpTree_take (v := ?_) rfl (by kernel_rfl) (fun w hSw => ?_) ?_
              rotate_left 1
              · go_simp
                with_reducible rfl
              simp only [Act.put, List.setIfInBounds_toArray, List.set_cons_zero, List.set_cons_succ]
              refine wpTree_take (v := .agg #[.int .i64 Lr.p, .int .i64 Lr.q, .int .i64 Lr.r]) rfl (by kernel_rfl) (fun w hSw => exec_load (ty := 56) (x := .tmp 80) (p := .pointer (some ⟨G1, 1, none⟩)) (by kernel_rfl) (by kernel_rfl) (run_loadAt_mid w G1 1 56 (Tr.cells Lr) _ (RG1.out _ (HC.out _ hSw).2.2.1) Tryd.underlying56 rfl (by kernel_rfl))) ?_
              simp only [Act.put, List.setIfInBounds_toArray, List.set_cons_zero, List.set_cons_succ]
              refine wpTree_two rfl rfl (fun K hK => ⟨by kernel_rfl, ?_⟩) (fun K hK => ⟨by kernel_rfl, ?_⟩)
              · go_simp
                go_at_call 54
                refine (QA.out _).mono ?_
                rintro e V2 ⟨rfl, hbn⟩
                replace hb := hb.trans (hbn.mono hb.size)
                refine hK _ _ hb ?_
                clear hK K hbn
                try simp only [Act.put, List.setIfInBounds_toArray, List.set_cons_zero, List.set_cons_succ]
                iterate 3
                  refine wpTree_take (v := ?_) rfl (by kernel_rfl) (fun w hSw => ?_) ?_
                  rotate_left 1
                  · go_simp
                    with_reducible rfl
                  simp only [Act.put, List.setIfInBounds_toArray, List.set_cons_zero, List.set_cons_succ]
                refine wpTree_one rfl (fun K hK => ⟨by kernel_rfl, ?_⟩)
                go_simp
                have ra3 := Row.new V2 68 [.int .i64 0, .int .i64 0, .int .i64 0, .int .i64 0, .int .i64 0, .int .i64 0]
                have hbn := below_alloc' V2 (.cells #[.int .i64 0, .int .i64 0, .int .i64 0, .int .i64 0, .int .i64 0, .int .i64 0] 68)
                have hg3 := hb.size
                obtain ⟨V3, hV⟩ : ∃ V, V2.alloc (.cells #[.int .i64 0, .int .i64 0, .int .i64 0, .int .i64 0, .int .i64 0, .int .i64 0] 68) = V := ⟨_, rfl⟩
                replace ra3 : Row V3 V2.heap.size 68 [.int .i64 0, .int .i64 0, .int .i64 0, .int .i64 0, .int .i64 0, .int .i64 0] := hV ▸ ra3
                rw [hV] at hbn
                replace hb := hb.trans (hbn.mono hb.size)
                try rw [hV]
                clear hV
                refine hK _ _ hb ?_
                clear hK K hbn
                try simp only [Act.put, List.setIfInBounds_toArray, List.set_cons_zero, List.set_cons_succ]
                generalize V2.heap.size = G3 at ra3 hg3 ⊢
                refine wpTree_one rfl (fun K hK => ⟨by kernel_rfl, ?_⟩)
                obtain ⟨m0, m1, m2, m3, m4, m5⟩ := st6 ra3
                have ff := fun i => Row.frozen ra3 i
                go_simp
                have hr := (((((ra3.store 0 (.int .i64 Xm.x.a)).store 1 (.int .i64 Xm.x.b)).store 2 (.int .i64 Xm.y.a)).store 3 (.int .i64 Xm.y.b)).store 4 (.int .i64 Xm.z.a)).store 5 (.int .i64 Xm.z.b)
                have hbs := (((((hb.setCell (p := ⟨G3, 0, none⟩) hg3 (.int .i64 Xm.x.a)).setCell (p := ⟨G3, 1, none⟩) hg3 (.int .i64 Xm.x.b)).setCell (p := ⟨G3, 2, none⟩) hg3 (.int .i64 Xm.y.a)).setCell (p := ⟨G3, 3, none⟩) hg3 (.int .i64 Xm.y.b)).setCell (p := ⟨G3, 4, none⟩) hg3 (.int .i64 Xm.z.a)).setCell (p := ⟨G3, 5, none⟩) hg3 (.int .i64 Xm.z.b)
                refine hK _ _ hbs ?_
                clear hK K
                refine wpTree_done ?_
                simp only [List.drop_succ_cons, List.drop_zero]
                have FIN := Lib.hid (And.intro hbs hr)
                clear hbs hr m0 m1 m2 m3 m4 m5 ff ra3 hb
                go_wp2_with fail
                go_meet
                exact ⟨rfl, G3, rfl, FIN.out.1, FIN.out.2⟩
              · go_simp
                have ra3 := Row.new V1 68 [.int .i64 0, .int .i64 0, .int .i64 0, .int .i64 0, .int .i64 0, .int .i64 0]
                have hbn := below_alloc' V1 (.cells #[.int .i64 0, .int .i64 0, .int .i64 0, .int .i64 0, .int .i64 0, .int .i64 0] 68)
                have hg3 := hb.size
                obtain ⟨V2, hV⟩ : ∃ V, V1.alloc (.cells #[.int .i64 0, .int .i64 0, .int .i64 0, .int .i64 0, .int .i64 0, .int .i64 0] 68) = V := ⟨_, rfl⟩
                replace ra3 : Row V2 V1.heap.size 68 [.int .i64 0, .int .i64 0, .int .i64 0, .int .i64 0, .int .i64 0, .int .i64 0] := hV ▸ ra3
                rw [hV] at hbn
                replace hb := hb.trans (hbn.mono hb.size)
                try rw [hV]
                clear hV
                refine hK _ _ hb ?_
                clear hK K hbn
                try simp only [Act.put, List.setIfInBounds_toArray, List.set_cons_zero, List.set_cons_succ]
                generalize V1.heap.size = G3 at ra3 hg3 ⊢
                refine wpTree_one rfl (fun K hK => ⟨by kernel_rfl, ?_⟩)
                go_simp
                go_at_call 54
                refine (QA.out _).mono ?_
                rintro e V3 ⟨rfl, hbn⟩
                replace hb := hb.trans (hbn.mono hb.size)
                replace ra3 := ra3.below hbn ra3.lt
                refine hK _ _ hb ?_
                clear hK K hbn
                try simp only [Act.put, List.setIfInBounds_toArray, List.set_cons_zero, List.set_cons_succ]
                iterate 3
                  refine wpTree_take (v := ?_) rfl (by kernel_rfl) (fun w hSw => ?_) ?_
                  rotate_left 1
                  · go_simp
                    with_reducible rfl
                  simp only [Act.put, List.setIfInBounds_toArray, List.set_cons_zero, List.set_cons_succ]
                refine wpTree_one rfl (fun K hK => ⟨by kernel_rfl, ?_⟩)
                obtain ⟨m0, m1, m2, m3, m4, m5⟩ := st6 ra3
                have ff := fun i => Row.frozen ra3 i
                go_simp
                have hr := (((((ra3.store 0 (.int .i64 Xm.x.a)).store 1 (.int .i64 Xm.x.b)).store 2 (.int .i64 Xm.y.a)).store 3 (.int .i64 Xm.y.b)).store 4 (.int .i64 Xm.z.a)).store 5 (.int .i64 Xm.z.b)
                have hbs := (((((hb.setCell (p := ⟨G3, 0, none⟩) hg3 (.int .i64 Xm.x.a)).setCell (p := ⟨G3, 1, none⟩) hg3 (.int .i64 Xm.x.b)).setCell (p := ⟨G3, 2, none⟩) hg3 (.int .i64 Xm.y.a)).setCell (p := ⟨G3, 3, none⟩) hg3 (.int .i64 Xm.y.b)).setCell (p := ⟨G3, 4, none⟩) hg3 (.int .i64 Xm.z.a)).setCell (p := ⟨G3, 5, none⟩) hg3 (.int .i64 Xm.z.b)
                refine hK _ _ hbs ?_
                clear hK K
                refine wpTree_done ?_
                simp only [List.drop_succ_cons, List.drop_zero]
                have FIN := Lib.hid (And.intro hbs hr)
                clear hbs hr m0 m1 m2 m3 m4 m5 ff ra3 hb
                go_wp2_with fail
                go_meet
                exact ⟨rfl, G3, rfl, FIN.out.1, FIN.out.2⟩
            case rest =>
              obtain ⟨rfl, G3, rfl, hb9, r3⟩ := hcut
              obtain ⟨x0, x1, x2, x3, x4, x5⟩ := st6 r3
              obtain ⟨y0, y1, y2, y3⟩ := CG2.out _ (HC.out _ hb9).2.2.2
              go_upto_region 11 with (go_at_call 54; (with_reducible refine (QB.out _).mono ?_); rintro e w10 ⟨rfl, hbn⟩; replace hb9 := hb9.trans (hbn.mono hb9.size); clear hbn)
              have r4 := Row.new w10 68 [.int .i64 Xo.x.a, .int .i64 Xo.x.b, .int .i64 Xo.y.a, .int .i64 Xo.y.b, .int .i64 Xo.z.a, .int .i64 Xo.z.b]
              replace hb9 := hb9.alloc hb9.size (.cells #[.int .i64 Xo.x.a, .int .i64 Xo.x.b, .int .i64 Xo.y.a, .int .i64 Xo.y.b, .int .i64 Xo.z.a, .int .i64 Xo.z.b] 68)
              clear x0 x1 x2 x3 x4 x5 y0 y1 y2 y3 r3
              obtain ⟨Wy, hV⟩ : ∃ V, w10.alloc (.cells #[.int .i64 Xo.x.a, .int .i64 Xo.x.b, .int .i64 Xo.y.a, .int .i64 Xo.y.b, .int .i64 Xo.z.a, .int .i64 Xo.z.b] 68) = V := ⟨_, rfl⟩
              replace r4 : Row Wy w10.heap.size 68 [.int .i64 Xo.x.a, .int .i64 Xo.x.b, .int .i64 Xo.y.a, .int .i64 Xo.y.b, .int .i64 Xo.z.a, .int .i64 Xo.z.b] := hV ▸ r4
              rw [hV] at hb9 ⊢
              clear hV
              generalize w10.heap.size = G4 at *
              obtain ⟨x0, x1, x2, x3, x4, x5⟩ := st6 r4
              obtain ⟨⟨_, z2⟩, ⟨_, z3⟩, _, y1⟩ := HC.out _ hb9
              obtain ⟨y0, _⟩ := CG2.out _ y1
              have e0 : Wy.cell? ⟨bo, oo + ra * 6, none⟩ = some (.int .i64 Xo.x.a) := z3 0 _ rfl
              have e1 : Wy.cell? ⟨bo, oo + ra * 6 + 1, none⟩ = some (.int .i64 Xo.x.b) := z3 1 _ rfl
              have e2 : Wy.cell? ⟨bo, oo + ra * 6 + 2, none⟩ = some (.int .i64 Xo.y.a) := z3 2 _ rfl
              have e3 : Wy.cell? ⟨bo, oo + ra * 6 + 3, none⟩ = some (.int .i64 Xo.y.b) := z3 3 _ rfl
              have e4 : Wy.cell? ⟨bo, oo + ra * 6 + 4, none⟩ = some (.int .i64 Xo.z.a) := z3 4 _ rfl
              have e5 : Wy.cell? ⟨bo, oo + ra * 6 + 5, none⟩ = some (.int .i64 Xo.z.b) := z3 5 _ rfl
              clear z3 y1 r4
              have FIN := Lib.hid (hBz.trans (hb9.mono hBz.size))
              go_quiet (fail)
              clear x0 x1 x2 x3 x4 x5 e0 e1 e2 e3 e4 e5 y0 z2
              go_wp2_with fail
              go_roundg (gk - 1)
              case measure => omega
              case rel => exact ⟨k + 1, by first | rfl | go_num, by omega, by first | exact FIN.out | exact FIN.out.trans (below_drewN _ _ _)⟩
        · have hL : leftOg bits l o k = q := by rw [HLd.out]; rfl
          have hR : rightOg bits l o k = p := by rw [HRd.out]; rfl
          have st1 := store_og q.cells (og_len hq36) (og_one q) r1 (og_len hp36)
          have n1 : Row (wc.setRow G1 q.cells.toArray) G1 60 q.cells := setRow_heap wc _ _ _ _ _ r1
          have n2 := Row.setRow_other r2 (g := G1) hne.symm q.cells.toArray
          have hb5 := below_setRow (g := G1) hb4 hg1 q.cells.toArray
          have st2 := store_og p.cells (og_len hp36) (og_one p) n2 (og_len hq36)
          have k1 := Row.setRow_other n1 (g := G2) hne p.cells.toArray
          have k2 : Row ((wc.setRow G1 q.cells.toArray).setRow G2 p.cells.toArray) G2 60 p.cells := setRow_heap _ _ _ _ _ _ n2
          have hbz := below_setRow (g := G2) hb5 hg2 p.cells.toArray
          have hr1 := range_row r1
          have hr2 := range_row r2
          clear n1 n2 hb5
          go_upto_region 7 with (first
            | (refine wpList_load_row rfl 60 _ rfl G2 0 q.cells rfl hr2 Tryd.underlying60 rfl (sizeOg hq36) ?_)
            | (refine wpList_load_row rfl 60 _ rfl G1 0 p.cells rfl hr1 Tryd.underlying60 rfl (sizeOg hp36) ?_))
          clear st1 st2 hr1 hr2 f0
          obtain ⟨Wz, hWz⟩ : ∃ Wz, (wc.setRow G1 q.cells.toArray).setRow G2 p.cells.toArray = Wz := ⟨_, rfl⟩
          rw [hWz] at k1 k2 hbz ⊢
          clear hWz r1 r2 hb4
          have n1 := k1
          have n2 := k2
          clear k1 k2
          have FA := HSA.out q p hL hR
          obtain ⟨⟨⟨l1, l2⟩, ⟨l3, l4⟩⟩, l5, ⟨l6, l7⟩, ⟨l8, l9⟩⟩ := FA
          have g1c : Wz.cell? ⟨G1, 0, none⟩ = some (.int .i64 q.a) := n1.cell 0
          have g2c : Wz.cell? ⟨G2, 0, none⟩ = some (.int .i64 p.a) := n2.cell 0
          have g2p : Wz.cell? ⟨G2, 1, none⟩ = some (.int .i64 p.r.p) := n2.cell 1
          have rg1 := fun (W' : World) (hr : Row W' G1 60 q.cells) => (show W'.rangeAt G1 1 (Tr.cells q.r) from fun j v hj => by
            have hj3 : j < 3 := (List.getElem?_eq_some_iff.1 hj).1
            rw [hr.cell]
            rcases (show j = 0 ∨ j = 1 ∨ j = 2 by omega) with rfl | rfl | rfl <;> exact hj)
          have cg1 := fun (W' : World) (hr : Row W' G1 60 q.cells) => (show W'.cell? ⟨G1, 0, none⟩ = some (.int .i64 q.a) from hr.cell 0)
          have cg2 := fun (W' : World) (hr : Row W' G2 60 p.cells) => (show W'.cell? ⟨G2, 0, none⟩ = some (.int .i64 p.a) ∧ W'.cell? ⟨G2, 1, none⟩ = some (.int .i64 p.r.p) ∧ W'.cell? ⟨G2, 2, none⟩ = some (.int .i64 p.r.q) ∧ W'.cell? ⟨G2, 3, none⟩ = some (.int .i64 p.r.r) from ⟨hr.cell 0, hr.cell 1, hr.cell 2, hr.cell 3⟩)
          have hla : ∃ la : Nat, q.a = la := ⟨q.a.toNat, by omega⟩
          have hra : ∃ ra : Nat, p.a = ra := ⟨p.a.toNat, by omega⟩
          obtain ⟨Lr, hLr⟩ : ∃ Lr, q.r = Lr := ⟨_, rfl⟩
          obtain ⟨Rr, hRr⟩ : ∃ Rr, p.r = Rr := ⟨_, rfl⟩
          obtain ⟨LC, hLC⟩ : ∃ LC, q.cells = LC := ⟨_, rfl⟩
          obtain ⟨RC, hRC⟩ : ∃ RC, p.cells = RC := ⟨_, rfl⟩
          obtain ⟨la, hla⟩ := hla
          obtain ⟨ra, hra⟩ := hra
          rw [hLC] at n1 rg1 cg1
          rw [hRC] at n2 cg2
          rw [hLr] at rg1 l6
          rw [hRr] at l8 g2p cg2
          rw [hla] at l1 l2 l5 l6 l7 g1c cg1
          rw [hra] at l3 l4 l5 l8 g2c cg2
          simp only [Int.toNat_natCast] at l5 l6 l7 l8
          clear hLr hRr hLC hRC hla hra hL hR
          have hBz : Below W.heap.size W Wz := hBr.trans (hbz.mono hBr.size)
          obtain ⟨bp, op, ep, hbp, dp⟩ := sl_at (HP.out.below (hBz.mono hz)) (j := la) (by have := HN.out; omega)
          subst ep
          have fp := dp 0 (by omega)
          simp only [encI, l5, List.getD_cons_zero, Nat.add_zero, Nat.mul_one] at fp
          obtain ⟨bi, oi, ei, hbi, di⟩ := sl_at (HM.out.i.below (hBz.mono hz)) (j := la) (by omega)
          obtain ⟨bo, oo, eo, hbo, dO⟩ := sl_at (HM.out.o.below (hBz.mono hz)) (j := ra) (by have := HN.out; omega)
          simp only at ei eo
          subst ei eo
          have hri : Wz.rangeAt bi (oi + la * 6) (encS (m.i.getD la default)) := range_sl di rfl
          have hro : Wz.rangeAt bo (oo + ra * 6) (encS (m.o.getD ra default)) := range_sl dO rfl
          obtain ⟨Xi, hXi⟩ : ∃ Xi, m.i.getD la default = Xi := ⟨_, rfl⟩
          obtain ⟨Xo, hXo⟩ : ∃ Xo, m.o.getD ra default = Xo := ⟨_, rfl⟩
          obtain ⟨Xm, hXm⟩ : ∃ Xm, m.m.getD k default = Xm := ⟨_, rfl⟩
          rw [hXi] at hri l6 l7
          rw [hXo] at hro l8
          rw [hXm] at l6 l8 l9
          have qa := fun w => again_any key Xi Lr w
          have qb := fun w => again_any key Xm Rr w
          rw [l6, l7] at qa
          rw [l8, l9] at qb
          have bq : ∀ w, (Op.equalIn 10000 68 Xo.val Xo.val).run Tryd.prog w = .ok true w := fun w => by
            have := runS Xo Xo w
            rwa [eqSe_iff.2 rfl] at this
          unfold Se.val Tr.val at qa qb
          unfold Se.val at bq
          have QA := Lib.hid qa
          have QB := Lib.hid qb
          have s5 : (0 : Int) ≤ la := by omega
          have s6 : (la : Int) < bits.length := by have := HN.out; omega
          have s7 : (la : Int) < X.length := by have := HN.out; omega
          have s8 : (0 : Int) ≤ ra := by omega
          have s9 : (ra : Int) < bits.length := by have := HN.out; omega
          have t1 : decide ((la : Int) < 0) = false := decide_eq_false (by omega)
          have t2 : decide ((bits.length : Int) ≤ la) = false := decide_eq_false (by omega)
          have t3 : decide ((ra : Int) < 0) = false := decide_eq_false (by omega)
          have t4 : decide ((bits.length : Int) ≤ ra) = false := decide_eq_false (by omega)
          have t5 : ((ra : Int) != ra) = false := by simp
          have t6 : ((bits.length : Int) ≤ la) = False := by simp; omega
          have t7 : ((bits.length : Int) ≤ ra) = False := by simp; omega
          have hbiz : bi < Wz.heap.size := by have := hBz.size; omega
          have hboz : bo < Wz.heap.size := by have := hBz.size; omega
          have HRI := Lib.hid hri
          have HRO := Lib.hid hro
          clear dp di dO qa qb hXi hXo hXm l1 l3 l5 l6 l7 l8 l9
          go_cut [71] from 40 to 71 (fun v W' => v = .bool false ∧ Below Wz.heap.size Wz W')
          case first =>
            go_quiet (fail)
            go_wp2_with fail
            go_meet
            case rel => exact ⟨rfl, by first | exact Below.refl _ _ | exact below_drewN _ _ _⟩
          case rest =>
            obtain ⟨rfl, hb7⟩ := hcut
            have hC : ∀ W', Below Wz.heap.size Wz W' → (W'.cell? ⟨w.heap.size, 0, none⟩ = some (.slice (some ⟨bi, oi, none⟩) m.i.length ci) ∧ W'.cell? ⟨w.heap.size, 2, none⟩ = some (.slice (some ⟨bo, oo, none⟩) m.o.length co)) ∧ (W'.rangeAt bi (oi + la * 6) (encS Xi) ∧ W'.rangeAt bo (oo + ra * 6) (encS Xo)) ∧ Row W' G1 60 LC ∧ Row W' G2 60 RC := fun W' h =>
              have r0' := (r0.below hBz r0.lt).below h (r0.below hBz r0.lt).lt
              ⟨⟨r0'.cell 0, r0'.cell 2⟩, ⟨range_below HRI.out h hbiz, range_below HRO.out h hboz⟩, n1.below h n1.lt, n2.below h n2.lt⟩
            have HC := Lib.hid hC
            have CG1 := Lib.hid cg1
            have CG2 := Lib.hid cg2
            have RG1 := Lib.hid rg1
            have s10 : (la : Int) < m.i.length := by omega
            have s11 : (ra : Int) < m.o.length := by have := HN.out; omega
            clear hC cg1 cg2 rg1 t1 t2 t3 t4 t5 t6 t7 fp g1c g2c g2p l2 l4 n1 n2
            go_upto_region 9 with fail
            go_cut [16, 17] from 72 to 84 (fun a b W' => b = .int .i64 0 ∧ ∃ G3, a = .pointer (some ⟨G3, 0, none⟩) ∧ Below Wz.heap.size Wz W' ∧ Row W' G3 68 [.int .i64 Xm.x.a, .int .i64 Xm.x.b, .int .i64 Xm.y.a, .int .i64 Xm.y.b, .int .i64 Xm.z.a, .int .i64 Xm.z.b])
            case first =>
              refine wp_region_tree 15 (.take 0 (.take 1 (.take 2 (.take 3 (.take 4 (.take 5 (.take 6 (.take 7 (.take 8 (.two 9 (.take 10 (.take 11 (.take 12 (.one 13 (.one 14 .done))))) 13 (.one 9 (.take 10 (.take 11 (.take 12 (.one 14 .done)))))))))))))))
                (fun W' => Below Wz.heap.size Wz W') (by kernel_rfl) (by kernel_rfl) (fun _ _ d _ _ h => by cases d <;> exact h) hb7.drew ?_
              have hb := hb7.drew
              generalize wc.drew = V1 at *
              iterate 6
                refine wpTree_take (v := ?_) rfl (by kernel_rfl) (fun w hSw => ?_) ?_
                rotate_left 1
                · obtain ⟨⟨x0, x2⟩, _, y1, y2⟩ := HC.out _ hSw
                  have y0 := CG1.out _ y1
                  go_simp
                  with_reducible rfl
                simp only [Act.put, List.setIfInBounds_toArray, List.set_cons_zero, List.set_cons_succ]
              refine wpTree_take (v := .agg #[.int .i64 Xi.x.a, .int .i64 Xi.x.b, .int .i64 Xi.y.a, .int .i64 Xi.y.b, .int .i64 Xi.z.a, .int .i64 Xi.z.b]) rfl (by kernel_rfl) (fun w hSw => exec_load (ty := 68) (x := .tmp 78) (p := .pointer (some ⟨bi, oi + la * 6, none⟩)) (by kernel_rfl) (by kernel_rfl) (run_loadAt_mid w bi (oi + la * 6) 68 (encS Xi) _ (HC.out _ hSw).2.1.1 Tryd.underlying68 rfl (by kernel_rfl))) ?_
              simp only [Act.put, List.setIfInBounds_toArray, List.set_cons_zero, List.set_cons_succ]
              refine wpTree_take (v := ?_) rfl (by kernel_rfl) (fun w hSw => ?_) ?_
              rotate_left 1
              · go_simp
                with_reducible rfl
              simp only [Act.put, List.setIfInBounds_toArray, List.set_cons_zero, List.set_cons_succ]
              refine wpTree_take (v := .agg #[.int .i64 Lr.p, .int .i64 Lr.q, .int .i64 Lr.r]) rfl (by kernel_rfl) (fun w hSw => exec_load (ty := 56) (x := .tmp 80) (p := .pointer (some ⟨G1, 1, none⟩)) (by kernel_rfl) (by kernel_rfl) (run_loadAt_mid w G1 1 56 (Tr.cells Lr) _ (RG1.out _ (HC.out _ hSw).2.2.1) Tryd.underlying56 rfl (by kernel_rfl))) ?_
              simp only [Act.put, List.setIfInBounds_toArray, List.set_cons_zero, List.set_cons_succ]
              refine wpTree_two rfl rfl (fun K hK => ⟨by kernel_rfl, ?_⟩) (fun K hK => ⟨by kernel_rfl, ?_⟩)
              · go_simp
                go_at_call 54
                refine (QA.out _).mono ?_
                rintro e V2 ⟨rfl, hbn⟩
                replace hb := hb.trans (hbn.mono hb.size)
                refine hK _ _ hb ?_
                clear hK K hbn
                try simp only [Act.put, List.setIfInBounds_toArray, List.set_cons_zero, List.set_cons_succ]
                iterate 3
                  refine wpTree_take (v := ?_) rfl (by kernel_rfl) (fun w hSw => ?_) ?_
                  rotate_left 1
                  · go_simp
                    with_reducible rfl
                  simp only [Act.put, List.setIfInBounds_toArray, List.set_cons_zero, List.set_cons_succ]
                refine wpTree_one rfl (fun K hK => ⟨by kernel_rfl, ?_⟩)
                go_simp
                have ra3 := Row.new V2 68 [.int .i64 0, .int .i64 0, .int .i64 0, .int .i64 0, .int .i64 0, .int .i64 0]
                have hbn := below_alloc' V2 (.cells #[.int .i64 0, .int .i64 0, .int .i64 0, .int .i64 0, .int .i64 0, .int .i64 0] 68)
                have hg3 := hb.size
                obtain ⟨V3, hV⟩ : ∃ V, V2.alloc (.cells #[.int .i64 0, .int .i64 0, .int .i64 0, .int .i64 0, .int .i64 0, .int .i64 0] 68) = V := ⟨_, rfl⟩
                replace ra3 : Row V3 V2.heap.size 68 [.int .i64 0, .int .i64 0, .int .i64 0, .int .i64 0, .int .i64 0, .int .i64 0] := hV ▸ ra3
                rw [hV] at hbn
                replace hb := hb.trans (hbn.mono hb.size)
                try rw [hV]
                clear hV
                refine hK _ _ hb ?_
                clear hK K hbn
                try simp only [Act.put, List.setIfInBounds_toArray, List.set_cons_zero, List.set_cons_succ]
                generalize V2.heap.size = G3 at ra3 hg3 ⊢
                refine wpTree_one rfl (fun K hK => ⟨by kernel_rfl, ?_⟩)
                obtain ⟨m0, m1, m2, m3, m4, m5⟩ := st6 ra3
                have ff := fun i => Row.frozen ra3 i
                go_simp
                have hr := (((((ra3.store 0 (.int .i64 Xm.x.a)).store 1 (.int .i64 Xm.x.b)).store 2 (.int .i64 Xm.y.a)).store 3 (.int .i64 Xm.y.b)).store 4 (.int .i64 Xm.z.a)).store 5 (.int .i64 Xm.z.b)
                have hbs := (((((hb.setCell (p := ⟨G3, 0, none⟩) hg3 (.int .i64 Xm.x.a)).setCell (p := ⟨G3, 1, none⟩) hg3 (.int .i64 Xm.x.b)).setCell (p := ⟨G3, 2, none⟩) hg3 (.int .i64 Xm.y.a)).setCell (p := ⟨G3, 3, none⟩) hg3 (.int .i64 Xm.y.b)).setCell (p := ⟨G3, 4, none⟩) hg3 (.int .i64 Xm.z.a)).setCell (p := ⟨G3, 5, none⟩) hg3 (.int .i64 Xm.z.b)
                refine hK _ _ hbs ?_
                clear hK K
                refine wpTree_done ?_
                simp only [List.drop_succ_cons, List.drop_zero]
                have FIN := Lib.hid (And.intro hbs hr)
                clear hbs hr m0 m1 m2 m3 m4 m5 ff ra3 hb
                go_wp2_with fail
                go_meet
                exact ⟨rfl, G3, rfl, FIN.out.1, FIN.out.2⟩
              · go_simp
                have ra3 := Row.new V1 68 [.int .i64 0, .int .i64 0, .int .i64 0, .int .i64 0, .int .i64 0, .int .i64 0]
                have hbn := below_alloc' V1 (.cells #[.int .i64 0, .int .i64 0, .int .i64 0, .int .i64 0, .int .i64 0, .int .i64 0] 68)
                have hg3 := hb.size
                obtain ⟨V2, hV⟩ : ∃ V, V1.alloc (.cells #[.int .i64 0, .int .i64 0, .int .i64 0, .int .i64 0, .int .i64 0, .int .i64 0] 68) = V := ⟨_, rfl⟩
                replace ra3 : Row V2 V1.heap.size 68 [.int .i64 0, .int .i64 0, .int .i64 0, .int .i64 0, .int .i64 0, .int .i64 0] := hV ▸ ra3
                rw [hV] at hbn
                replace hb := hb.trans (hbn.mono hb.size)
                try rw [hV]
                clear hV
                refine hK _ _ hb ?_
                clear hK K hbn
                try simp only [Act.put, List.setIfInBounds_toArray, List.set_cons_zero, List.set_cons_succ]
                generalize V1.heap.size = G3 at ra3 hg3 ⊢
                refine wpTree_one rfl (fun K hK => ⟨by kernel_rfl, ?_⟩)
                go_simp
                go_at_call 54
                refine (QA.out _).mono ?_
                rintro e V3 ⟨rfl, hbn⟩
                replace hb := hb.trans (hbn.mono hb.size)
                replace ra3 := ra3.below hbn ra3.lt
                refine hK _ _ hb ?_
                clear hK K hbn
                try simp only [Act.put, List.setIfInBounds_toArray, List.set_cons_zero, List.set_cons_succ]
                iterate 3
                  refine wpTree_take (v := ?_) rfl (by kernel_rfl) (fun w hSw => ?_) ?_
                  rotate_left 1
                  · go_simp
                    with_reducible rfl
                  simp only [Act.put, List.setIfInBounds_toArray, List.set_cons_zero, List.set_cons_succ]
                refine wpTree_one rfl (fun K hK => ⟨by kernel_rfl, ?_⟩)
                obtain ⟨m0, m1, m2, m3, m4, m5⟩ := st6 ra3
                have ff := fun i => Row.frozen ra3 i
                go_simp
                have hr := (((((ra3.store 0 (.int .i64 Xm.x.a)).store 1 (.int .i64 Xm.x.b)).store 2 (.int .i64 Xm.y.a)).store 3 (.int .i64 Xm.y.b)).store 4 (.int .i64 Xm.z.a)).store 5 (.int .i64 Xm.z.b)
                have hbs := (((((hb.setCell (p := ⟨G3, 0, none⟩) hg3 (.int .i64 Xm.x.a)).setCell (p := ⟨G3, 1, none⟩) hg3 (.int .i64 Xm.x.b)).setCell (p := ⟨G3, 2, none⟩) hg3 (.int .i64 Xm.y.a)).setCell (p := ⟨G3, 3, none⟩) hg3 (.int .i64 Xm.y.b)).setCell (p := ⟨G3, 4, none⟩) hg3 (.int .i64 Xm.z.a)).setCell (p := ⟨G3, 5, none⟩) hg3 (.int .i64 Xm.z.b)
                refine hK _ _ hbs ?_
                clear hK K
                refine wpTree_done ?_
                simp only [List.drop_succ_cons, List.drop_zero]
                have FIN := Lib.hid (And.intro hbs hr)
                clear hbs hr m0 m1 m2 m3 m4 m5 ff ra3 hb
                go_wp2_with fail
                go_meet
                exact ⟨rfl, G3, rfl, FIN.out.1, FIN.out.2⟩
            case rest =>
              obtain ⟨rfl, G3, rfl, hb9, r3⟩ := hcut
              obtain ⟨x0, x1, x2, x3, x4, x5⟩ := st6 r3
              obtain ⟨y0, y1, y2, y3⟩ := CG2.out _ (HC.out _ hb9).2.2.2
              go_upto_region 11 with (go_at_call 54; (with_reducible refine (QB.out _).mono ?_); rintro e w10 ⟨rfl, hbn⟩; replace hb9 := hb9.trans (hbn.mono hb9.size); clear hbn)
              have r4 := Row.new w10 68 [.int .i64 Xo.x.a, .int .i64 Xo.x.b, .int .i64 Xo.y.a, .int .i64 Xo.y.b, .int .i64 Xo.z.a, .int .i64 Xo.z.b]
              replace hb9 := hb9.alloc hb9.size (.cells #[.int .i64 Xo.x.a, .int .i64 Xo.x.b, .int .i64 Xo.y.a, .int .i64 Xo.y.b, .int .i64 Xo.z.a, .int .i64 Xo.z.b] 68)
              clear x0 x1 x2 x3 x4 x5 y0 y1 y2 y3 r3
              obtain ⟨Wy, hV⟩ : ∃ V, w10.alloc (.cells #[.int .i64 Xo.x.a, .int .i64 Xo.x.b, .int .i64 Xo.y.a, .int .i64 Xo.y.b, .int .i64 Xo.z.a, .int .i64 Xo.z.b] 68) = V := ⟨_, rfl⟩
              replace r4 : Row Wy w10.heap.size 68 [.int .i64 Xo.x.a, .int .i64 Xo.x.b, .int .i64 Xo.y.a, .int .i64 Xo.y.b, .int .i64 Xo.z.a, .int .i64 Xo.z.b] := hV ▸ r4
              rw [hV] at hb9 ⊢
              clear hV
              generalize w10.heap.size = G4 at *
              obtain ⟨x0, x1, x2, x3, x4, x5⟩ := st6 r4
              obtain ⟨⟨_, z2⟩, ⟨_, z3⟩, _, y1⟩ := HC.out _ hb9
              obtain ⟨y0, _⟩ := CG2.out _ y1
              have e0 : Wy.cell? ⟨bo, oo + ra * 6, none⟩ = some (.int .i64 Xo.x.a) := z3 0 _ rfl
              have e1 : Wy.cell? ⟨bo, oo + ra * 6 + 1, none⟩ = some (.int .i64 Xo.x.b) := z3 1 _ rfl
              have e2 : Wy.cell? ⟨bo, oo + ra * 6 + 2, none⟩ = some (.int .i64 Xo.y.a) := z3 2 _ rfl
              have e3 : Wy.cell? ⟨bo, oo + ra * 6 + 3, none⟩ = some (.int .i64 Xo.y.b) := z3 3 _ rfl
              have e4 : Wy.cell? ⟨bo, oo + ra * 6 + 4, none⟩ = some (.int .i64 Xo.z.a) := z3 4 _ rfl
              have e5 : Wy.cell? ⟨bo, oo + ra * 6 + 5, none⟩ = some (.int .i64 Xo.z.b) := z3 5 _ rfl
              clear z3 y1 r4
              have FIN := Lib.hid (hBz.trans (hb9.mono hBz.size))
              go_quiet (fail)
              clear x0 x1 x2 x3 x4 x5 e0 e1 e2 e3 e4 e5 y0 z2
              go_wp2_with fail
              go_roundg (gk - 1)
              case measure => omega
              case rel => exact ⟨k + 1, by first | rfl | go_num, by omega, by first | exact FIN.out | exact FIN.out.trans (below_drewN _ _ _)⟩
    · go_wp2_with fail
      go_ret
      exact ⟨rfl, hB.trans (hBr.mono hB.size)⟩
end Go.Proofs.YthboebhghaabnaaDoor

set_option linter.unusedSimpArgs false
set_option linter.unusedVariables false
namespace Go.Proofs.YthboebhghaabnaaDoor
open Go.RowKit Fk Sha
/-! What the laws of mixes lean on. -/
theorem wfI_bounds {n : Int} (h : wfI n) : -9223372036854775808 ≤ n ∧ n ≤ 9223372036854775807 := bounds_i64 h
theorem wfOg_ok {o : Og} (h : wfOg o) : o.ok := ⟨⟨wfI_bounds h.1, wfI_bounds h.2.1.1, wfI_bounds h.2.1.2.1, wfI_bounds h.2.1.2.2⟩, h.2.2⟩
theorem wfOg_all {l : List Og} (h : ∀ i, i < l.length → wfOg (l.getD i default)) : ∀ i, i < l.length → (l.getD i default).ok := fun i hi => wfOg_ok (h i hi)
theorem zeros_get (n : Nat) : ∀ j, j < (List.replicate n (0 : Int)).length → (List.replicate n (0 : Int)).getD j default = 0 := fun j hj => by
  rw [List.length_replicate] at hj
  rw [List.getD_eq_getElem?_getD, List.getElem?_replicate, if_pos hj]; rfl
theorem longMx_true {key : Int} {m : Mx} {bits : List Int} {l o : List Og} (h : Chk key m bits l) (k : Chk key m (opp bits) o) : longMx m bits.length l.length o.length = true := by
  unfold longMx
  rw [decide_eq_true (show m.i.length = bits.length by rw [h.lb]), decide_eq_true (show m.o.length = bits.length by rw [h.lb, h.lo]), decide_eq_true (show l.length = bits.length by rw [h.lb, h.lg]), decide_eq_true (show o.length = bits.length by rw [h.lb, k.lg])]
  rfl
/-- the calls of the law where openings of both halves are accepted -/
structure Both (w : World) (m : Mx) (x : MxA) (bits : List Int) (l o : List Og) (v0 v1 v2 : Value) (W : World) : Prop where
  mx : MxS W W.heap.size x m
  bt : SlI W W.heap.size v0 bits
  l : SlG 36 Og.cells W W.heap.size v1 l
  o : SlG 36 Og.cells W W.heap.size v2 o
theorem Both.below {w W W' : World} {m : Mx} {x : MxA} {bits : List Int} {l o : List Og} {v0 v1 v2 : Value} (h : Both w m x bits l o v0 v1 v2 W) (hb : Below W.heap.size W W') : Both w m x bits l o v0 v1 v2 W' :=
  ⟨(h.mx.below hb).mono hb.size, (h.bt.below hb).mono hb.size, (h.l.below hb).mono hb.size, (h.o.below hb).mono hb.size⟩
end Go.Proofs.YthboebhghaabnaaDoor
