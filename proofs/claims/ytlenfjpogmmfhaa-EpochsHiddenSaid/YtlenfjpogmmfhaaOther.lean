import Derived.Test.YtlenfjpogmmfhaaOtherP
import Derived.Test.YtlenfjpogmmfhaaLawE4
import Derived.StillTailTactics
namespace Go.Proofs.Ytlenfjpogmmfhaa
open Go.RowKit Fk

theorem rtimes_st (a b : Int) (w : World) :
    Calls Try.prog 50 #[.int .i64 a, .int .i64 b] w fun e w' => e = .returned (.int .i64 (timesQ a b)) ∧ w' = w :=
  (rtimes_any a b w).mono fun _ _ ⟨h1, h2⟩ => ⟨h1, h2.symm⟩
theorem rmod_st (a : Int) (w : World) :
    Calls Try.prog 52 #[.int .i64 a] w fun e w' => e = .returned (.int .i64 (a % 1073741789)) ∧ w' = w :=
  (rmod_any a w).mono fun _ _ ⟨h1, h2⟩ => ⟨h1, h2.symm⟩
theorem nxF_bd (p : Int) (l : List Int) (k j : Nat) : 0 ≤ nxF p l k j ∧ nxF p l k j < 1073741789 := by
  unfold nxF finF
  split
  · omega
  · split
    · split <;> omega
    · omega

theorem lpT_bd (places : List Int) {k : Nat} (hk : k ≤ places.length) (j : Nat) : 0 ≤ (lpT places k).getD j default ∧ (lpT places k).getD j default < 1073741789 := by
  have out : ∀ l : List Int, l.length ≤ j → l.getD j default = 0 := fun l hl => by
    rw [List.getD_eq_getElem?_getD, List.getElem?_eq_none hl]; rfl
  cases k with
  | zero =>
    rw [lpT_zero]
    cases j with
    | zero => exact ⟨by decide, by decide⟩
    | succ j => rw [show ([1] : List Int).getD (j + 1) default = 0 from rfl]; omega
  | succ k =>
    rw [lpT_succ (by omega)]
    by_cases h : j ≤ (lpT places k).length
    · rw [List.getD_eq_getElem?_getD, lstep, nxL_get h]; exact nxF_bd _ _ _ _
    · rw [out _ (by rw [lstep_length]; omega)]; omega
theorem ot_set (c : Int) (L more : List Int) (i : Nat) (u : Int) (_hi : i < more.length) : (otTo c L more i ++ List.replicate (more.length - i) 0).set i u = otTo c L more i ++ u :: List.replicate (more.length - (i + 1)) 0 := by
  rw [List.set_append_right _ _ (by rw [otTo_length]; omega), otTo_length, Nat.sub_self]
  rw [show more.length - i = (more.length - (i + 1)) + 1 by omega, List.replicate_succ]
  rfl
theorem ot_set2 (c : Int) (L more : List Int) (i : Nat) (u v : Int) (_hi : i < more.length) : (otTo c L more i ++ u :: List.replicate (more.length - (i + 1)) 0).set i v = otTo c L more i ++ v :: List.replicate (more.length - (i + 1)) 0 := by
  rw [List.set_append_right _ _ (by rw [otTo_length]; omega), otTo_length, Nat.sub_self]
  rfl
theorem ot_get (c : Int) (L more : List Int) (i : Nat) (u : Int) (r : List Int) : (otTo c L more i ++ u :: r)[i]? = some u := by
  rw [List.getElem?_append_right (by rw [otTo_length]; omega), otTo_length, Nat.sub_self]; rfl
theorem ot_next (c : Int) (L more : List Int) (i : Nat) (r : List Int) : otTo c L more i ++ otF c L more i :: r = otTo c L more (i + 1) ++ r := by
  rw [otTo_succ, List.append_assoc]; rfl
def mi (l : List Int) : List Value := l.map (Value.int .i64)
theorem mi_get {l : List Int} {j : Nat} {x : Int} (h : l[j]? = some x) : (mi l)[j]? = some (.int .i64 x) := by
  unfold mi; rw [List.getElem?_map, h]; rfl
theorem mi_set (l : List Int) (j : Nat) (x : Int) : (mi l).set j (.int .i64 x) = mi (l.set j x) := by
  unfold mi; rw [List.map_set]
theorem getD_some {l : List Int} {j : Nat} (h : j < l.length) : l[j]? = some (l.getD j default) := by
  rw [List.getD_eq_getElem?_getD, List.getElem?_eq_getElem h]; rfl

set_option maxRecDepth 100000 in
set_option maxHeartbeats 4000000 in
theorem other_any (s o : Int) (more places : List Int) (v pv : Value) (w : World) (B0 : Nat) (hB0 : B0 ≤ w.heap.size) (hs : 1 ≤ s ∧ s < 1073741789) (ho : 1 ≤ o ∧ o < 1073741789)
    (hm : more.length ≤ 24) (hp : places.length ≤ 24) (h : SlI w B0 v more) (h' : SlI w B0 pv places) :
    Calls Try.prog 39 #[.int .i64 s, v, .int .i64 o, pv] w fun e w' => ∃ r, e = .returned r ∧ Below w.heap.size w w' ∧ SlI w' w'.heap.size r (otherL s more o places) := by
  have HS := Lib.hid h
  have HP := Lib.hid h'
  obtain ⟨hlen, A, c, rfl, _⟩ := h
  obtain ⟨hlen', A', c', rfl, _⟩ := h'
  obtain ⟨hs1, hs2⟩ := hs
  obtain ⟨ho1, ho2⟩ := ho
  have hmk := fun (n : Nat) (hn : n ≤ 100) => run_make_int (n + 1) (by omega)
  have HMK := Lib.hid hmk
  clear hmk
  go_enter Try.func39, Try.ntmps39
  go_wp2_with fail
  go_loopg [9, 10] places.length (fun g x i wr => Below w.heap.size w wr ∧ ∃ (k gg : Nat), i = .int .i64 k ∧ k + g = places.length ∧ x = .slice (some ⟨gg, 0, none⟩) (k + 1) (k + 1) ∧ w.heap.size ≤ gg ∧ Row wr gg 3 (mi (lpT places k)))
  case atStart => exact ⟨(Below.refl _ _).alloc (Nat.le_refl _) _, 0, w.heap.size, rfl, by omega, rfl, Nat.le_refl _, by rw [lpT_zero]; exact Row.new w 3 [.int .i64 1]⟩
  case round =>
    obtain ⟨hBr, k, gg, rfl, hkg, rfl, hgg, hR⟩ := hrel
    by_cases hlt : k < places.length
    · have hmk := HMK.out (k + 1) (by omega)
      have hgl := hR.lt
      rw [show ((k + 1 + 1 : Nat) : Int) = (k : Int) + 1 + 1 from by omega] at hmk
      go_wp2_with fail
      have hX0 : Row (wr.alloc (Obj.cells (Array.replicate (k + 1 + 1) (Value.int IntKind.i64 0)) 3)) wr.heap.size 3 (mi (nxL (places.getD k default) (lpT places k) 0)) := by
        have := Row.new wr 3 (mi (nxL (places.getD k default) (lpT places k) 0))
        rw [nxL_zero, lpT_length places k (by omega)] at this ⊢
        simpa [mi] using this
      have hR0 := hR.alloc (Obj.cells (Array.replicate (k + 1 + 1) (Value.int IntKind.i64 0)) 3)
      have hB1 := hBr.alloc hBr.size (Obj.cells (Array.replicate (k + 1 + 1) (Value.int IntKind.i64 0)) 3)
      have hz := hBr.size
      obtain ⟨wo, rfl⟩ : ∃ wo : World, wo = wr := ⟨_, rfl⟩
      obtain ⟨X, hX⟩ : ∃ X, wo.heap.size = X := ⟨_, rfl⟩
      rw [hX] at hX0 hgl hz ⊢
      generalize wo.alloc (Obj.cells (Array.replicate (k + 1 + 1) (Value.int IntKind.i64 0)) 3) = W1 at *
      obtain ⟨G, rfl⟩ : ∃ G : Nat, G = gk := ⟨_, rfl⟩
      have hlk := lpT_length places k (by omega)
      have hLb := lpT_bd places (k := k) (by omega)
      have hls := lpT_succ hlt
      obtain ⟨p, hpp⟩ : ∃ p, places.getD k default = p := ⟨_, rfl⟩
      obtain ⟨L, hL⟩ : ∃ L, lpT places k = L := ⟨_, rfl⟩
      rw [hpp, hL] at hX0 hls
      rw [hL] at hR0 hlk hLb
      have HPP := Lib.hid hpp
      have HLS := Lib.hid hls
      have HLK := Lib.hid hlk
      have HLB := Lib.hid hLb
      clear hmk hR hX hBr hL hls hpp hlk hLb
      go_loopg [12] (k + 1) (fun g x wr => Below w.heap.size w wr ∧ ∃ j : Nat, x = .int .i64 j ∧ j + g = k + 1 ∧ Row wr gg 3 (mi L) ∧ Row wr X 3 (mi (nxL p L j)))
      case atStart => exact ⟨hB1, 0, rfl, by omega, hR0, hX0⟩
      case round =>
        clear hR0 hX0 hB1
        obtain ⟨hBq, j, rfl, hjg, hR, hX⟩ := hrel
        by_cases hj : j < k + 1
        · obtain ⟨_, A2, c2, hv, hE0⟩ := HP.out.below (hBq.mono hB0)
          obtain ⟨bb, off, rfl, hbb, hE⟩ := hE0 (by omega)
          clear hE0
          cases hv
          have d1 := hE.int hlt
          rw [HPP.out] at d1
          have hjL : j < L.length := by rw [HLK.out]; exact hj
          have d2 : wr.cell? ⟨gg, j, none⟩ = some (.int .i64 (L.getD j default)) := by rw [hR.cell]; exact mi_get (getD_some hjL)
          have d3 : wr.cell? ⟨X, j, none⟩ = some (.int .i64 (nxF p L j j)) := by rw [hX.cell]; exact mi_get (nxL_get (by omega))
          have d4 : wr.cell? ⟨X, j + 1, none⟩ = some (.int .i64 (nxF p L j (j + 1))) := by rw [hX.cell]; exact mi_get (nxL_get (by omega))
          have f1 := hX.frozen j
          have f2 := hX.frozen (j + 1)
          have hb1 := nxF_bd p L j j
          have hb2 := nxF_bd p L j (j + 1)
          have hst := nxL_step (p := p) hjL
          have hxb := HLB.out j
          obtain ⟨x, hx⟩ : ∃ x, L.getD j default = x := ⟨_, rfl⟩
          obtain ⟨y, hy⟩ : ∃ y, nxF p L j j = y := ⟨_, rfl⟩
          obtain ⟨z, hz⟩ : ∃ z, nxF p L j (j + 1) = z := ⟨_, rfl⟩
          rw [hx] at d2 hst hxb
          rw [hy] at d3 hb1 hst
          rw [hz] at d4 hb2 hst
          have htb := timesQ_bd x p
          have HST := Lib.hid hst
          clear hx hy hz hst hE
          go_wp2_with fail
          have s1 : IntKind.i64.wrap (y - timesQ x p) = y - timesQ x p := IntWalk.i64_in _ (by omega)
          have s5 : (0 : Int) ≤ j := by omega
          have s6 : (j : Int) < (k : Int) + 1 := by omega
          have s7 : (j : Int) < (k : Int) + 1 + 1 := by omega
          have s8 : (k : Int) < places.length := by omega
          have s9 : (0 : Int) ≤ k := by omega
          go_still_tail 18, (by kernel_rfl)
          still_call (rtimes_st _ _ _)
          repeat still_step
          still_call (rmod_st _ _)
          repeat still_step
          refine wpStill_nil ?_
          change wpList _ _ _ _ _ wr.drew
          clear s1
          have hX1 : Row (wr.setCell ⟨X, j, none⟩ (.int .i64 ((y - timesQ x p) % 1073741789))).drew X 3 (mi ((nxL p L j).set j ((y - timesQ x p) % 1073741789))) := by
            have := hX.store j (.int .i64 ((y - timesQ x p) % 1073741789)); rw [mi_set] at this; exact this
          have hR1 : Row (wr.setCell ⟨X, j, none⟩ (.int .i64 ((y - timesQ x p) % 1073741789))).drew gg 3 (mi L) := hR.other (p := ⟨X, j, none⟩) (by simp only []; omega) _
          have hB1 : Below w.heap.size w (wr.setCell ⟨X, j, none⟩ (.int .i64 ((y - timesQ x p) % 1073741789))).drew := (hBq.setCell (p := ⟨X, j, none⟩) (by simp only []; omega) _).drew
          have HX1 := Lib.hid hX1
          have HR1 := Lib.hid hR1
          have HB1 := Lib.hid hB1
          have e2 : (wr.setCell ⟨X, j, none⟩ (.int .i64 ((y - timesQ x p) % 1073741789))).drew.cell? ⟨gg, j, none⟩ = some (.int .i64 x) := (World.cell?_setCell_other wr _ _ _ (fun e => by injection e; omega)).trans d2
          have e3 : (wr.setCell ⟨X, j, none⟩ (.int .i64 ((y - timesQ x p) % 1073741789))).drew.cell? ⟨X, j + 1, none⟩ = some (.int .i64 z) := (World.cell?_setCell_other wr _ _ _ (fun e => by injection e; omega)).trans d4
          have f3 : (wr.setCell ⟨X, j, none⟩ (.int .i64 ((y - timesQ x p) % 1073741789))).drew.frozen? ⟨X, j + 1, none⟩ = false := hX1.frozen _
          clear hX1 hR1 hB1 hR hX hBq
          go_wp2_with fail
          generalize (y - timesQ x p) % 1073741789 = u at *
          generalize (wr.setCell ⟨X, j, none⟩ (.int .i64 u)).drew = W2 at *
          clear d1 d2 d3 d4 f1 f2
          have s1 : IntKind.i64.wrap (z + x) = z + x := IntWalk.i64_in _ (by omega)
          have s2 : IntKind.i64.wrap ((j : Int) + 1) = (j : Int) + 1 := IntWalk.i64_in _ (by omega)
          have s3 : (0 : Int) ≤ (j : Int) + 1 := by omega
          have s4 : ((j : Int) + 1).toNat = j + 1 := by omega
          have s10 : (j : Int) + 1 < (k : Int) + 1 + 1 := by omega
          go_still_tail 15, (by kernel_rfl)
          still_call (rmod_st _ _)
          repeat still_step
          refine wpStill_nil ?_
          change wpList _ _ _ _ _ W2.drew
          clear s1 s2 s3 s4
          have hX2 : Row (W2.setCell ⟨X, j + 1, none⟩ (.int .i64 ((z + x) % 1073741789))).drew X 3 (mi (nxL p L (j + 1))) := by
            have := HX1.out.store (j + 1) (.int .i64 ((z + x) % 1073741789)); rw [mi_set, HST.out] at this; exact this
          have hR2 : Row (W2.setCell ⟨X, j + 1, none⟩ (.int .i64 ((z + x) % 1073741789))).drew gg 3 (mi L) := HR1.out.other (p := ⟨X, j + 1, none⟩) (by simp only []; omega) _
          have hB2 : Below w.heap.size w (W2.setCell ⟨X, j + 1, none⟩ (.int .i64 ((z + x) % 1073741789))).drew := (HB1.out.setCell (p := ⟨X, j + 1, none⟩) (by simp only []; omega) _).drew
          have HX2 := Lib.hid hX2
          have HR2 := Lib.hid hR2
          have HB2 := Lib.hid hB2
          clear hX2 hR2 hB2
          go_wp2_with fail
          go_roundg (gk - 1)
          case measure => omega
          case rel => exact ⟨HB2.out, j + 1, by go_num, by omega, HR2.out, HX2.out⟩
        · obtain rfl : j = k + 1 := by omega
          have hX3 : Hid (Row wr X 3 (mi (lpT places (k + 1)))) := by
            have e : nxL p L (k + 1) = lstep L p := by unfold lstep; rw [HLK.out]
            rw [e] at hX; rw [HLS.out]; exact hX
          clear hX hR
          go_wp2_with fail
          go_roundg (G - 1)
          case measure => omega
          case rel => exact ⟨hBq, k + 1, X, by go_num, by omega, rfl, by omega, hX3.out⟩
    · obtain rfl : k = places.length := by omega
      have hlk := lpT_length places places.length (Nat.le_refl _)
      have hLb := lpT_bd places (k := places.length) (Nat.le_refl _)
      have hot : otherL s more o places = otTo (quotQ (o - s) ((lpT places places.length).getD 0 default)) (lpT places places.length) more more.length := rfl
      obtain ⟨L, hL⟩ : ∃ L, lpT places places.length = L := ⟨_, rfl⟩
      rw [hL] at hR hlk hLb hot
      have d0 : wr.cell? ⟨gg, 0, none⟩ = some (.int .i64 (L.getD 0 default)) := by rw [hR.cell]; exact mi_get (getD_some (by omega))
      obtain ⟨l0, hl0⟩ : ∃ l0, L.getD 0 default = l0 := ⟨_, rfl⟩
      rw [hl0] at d0 hot
      obtain ⟨q, hq⟩ : ∃ q, quotQ (o - s) l0 = q := ⟨_, rfl⟩
      have hcq := fun w => rquot_any (o - s) l0 w
      rw [hq] at hot hcq
      have hmk := run_make_int more.length (by omega)
      have HOT := Lib.hid hot
      have HLB := Lib.hid hLb
      have HLK := Lib.hid hlk
      have HCQ := Lib.hid hcq
      clear hot hLb hlk hL hl0 hq hcq
      go_wp2_with (go_at_call 51; refine (HCQ.out _).mono ?_; rintro e w1 ⟨rfl, rfl⟩)
      have hX0 : Row (wr.alloc (Obj.cells (Array.replicate more.length (Value.int IntKind.i64 0)) 3)) wr.heap.size 3 (mi (otTo q L more 0 ++ List.replicate (more.length - 0) 0)) := by
        have := Row.new wr 3 (mi (otTo q L more 0 ++ List.replicate (more.length - 0) 0))
        simpa [mi, otTo] using this
      have hR0 := hR.alloc (Obj.cells (Array.replicate more.length (Value.int IntKind.i64 0)) 3)
      have hB1 := hBr.alloc hBr.size (Obj.cells (Array.replicate more.length (Value.int IntKind.i64 0)) 3)
      have hz := hBr.size
      have hgl := hR.lt
      obtain ⟨wo, rfl⟩ : ∃ wo : World, wo = wr := ⟨_, rfl⟩
      obtain ⟨X, hX⟩ : ∃ X, wo.heap.size = X := ⟨_, rfl⟩
      rw [hX] at hX0 hgl hz ⊢
      generalize wo.alloc (Obj.cells (Array.replicate more.length (Value.int IntKind.i64 0)) 3) = W1 at *
      clear hmk hR hX hBr d0
      go_loopg [15] more.length (fun g x wr => Below w.heap.size w wr ∧ ∃ i : Nat, x = .int .i64 i ∧ i + g = more.length ∧ Row wr gg 3 (mi L) ∧ Row wr X 3 (mi (otTo q L more i ++ List.replicate (more.length - i) 0)))
      case atStart => exact ⟨hB1, 0, rfl, by omega, hR0, hX0⟩
      case round =>
        clear hR0 hX0 hB1
        obtain ⟨hBq, j, rfl, hjg, hR, hX⟩ := hrel
        by_cases hj : j < more.length
        · obtain ⟨_, A2, c2, hv, hE0⟩ := HS.out.below (hBq.mono hB0)
          obtain ⟨bb, off, rfl, hbb, hE⟩ := hE0 (by omega)
          clear hE0
          cases hv
          have d1 := hE.int hj
          have hof : otF q L more j = if j + 1 < L.length then (more.getD j default % 1073741789 + timesQ q (L.getD (j + 1) default)) % 1073741789 else more.getD j default % 1073741789 := rfl
          obtain ⟨x, hx⟩ : ∃ x, more.getD j default = x := ⟨_, rfl⟩
          rw [hx] at d1 hof
          have f1 := hX.frozen j
          have d3 : wr.cell? ⟨X, j, none⟩ = some (.int .i64 0) := by
            rw [hX.cell]; apply mi_get
            rw [List.getElem?_append_right (by rw [otTo_length]; omega), otTo_length, Nat.sub_self, List.getElem?_replicate, if_pos (by omega)]
          obtain ⟨u, hu⟩ : ∃ u, x % 1073741789 = u := ⟨_, rfl⟩
          have hub : 0 ≤ u ∧ u < 1073741789 := by omega
          rw [hu] at hof
          have hX1 : Row (wr.setCell ⟨X, j, none⟩ (.int .i64 u)) X 3 (mi (otTo q L more j ++ u :: List.replicate (more.length - (j + 1)) 0)) := by
            have := hX.store j (.int .i64 u); rw [mi_set, ot_set _ _ _ _ _ hj] at this; exact this
          have hR1 : Row (wr.setCell ⟨X, j, none⟩ (.int .i64 u)) gg 3 (mi L) := hR.other (p := ⟨X, j, none⟩) (by simp only []; omega) _
          have hB1 : Below w.heap.size w (wr.setCell ⟨X, j, none⟩ (.int .i64 u)) := hBq.setCell (p := ⟨X, j, none⟩) (by simp only []; omega) _
          have cm : ∀ w : World, Calls Try.prog 52 #[.int .i64 x] w fun e w' => e = .returned (.int .i64 u) ∧ w = w' := fun w => by
            rw [← hu]; exact rmod_any x w
          have HCM := Lib.hid cm
          have HX1 := Lib.hid hX1
          have HR1 := Lib.hid hR1
          have HB1 := Lib.hid hB1
          have e3 : (wr.setCell ⟨X, j, none⟩ (.int .i64 u)).cell? ⟨X, j, none⟩ = some (.int .i64 u) := by rw [hX1.cell]; exact mi_get (ot_get _ _ _ _ _ _)
          have f3 : (wr.setCell ⟨X, j, none⟩ (.int .i64 u)).frozen? ⟨X, j, none⟩ = false := hX1.frozen _
          have t1 := timesQ_bd q (L.getD (j + 1) default)
          by_cases hL2 : j + 1 < L.length
          · have hL3 : j < places.length := by have := HLK.out; omega
            have e2 : (wr.setCell ⟨X, j, none⟩ (.int .i64 u)).cell? ⟨gg, j + 1, none⟩ = some (.int .i64 (L.getD (j + 1) default)) := by rw [hR1.cell]; exact mi_get (getD_some hL2)
            rw [if_pos hL2] at hof
            obtain ⟨y, hy⟩ : ∃ y, L.getD (j + 1) default = y := ⟨_, rfl⟩
            rw [hy] at e2 hof t1
            have HOF := Lib.hid hof
            clear cm hX1 hR1 hB1 hR hX hBq hof hE hu hx hy hL2
            go_wp2_with (go_at_call 52; refine (HCM.out _).mono ?_; rintro e w1 ⟨rfl, rfl⟩)
            generalize wr.setCell ⟨X, j, none⟩ (.int .i64 u) = W2 at *
            clear d1 d3 f1
            have s1 : IntKind.i64.wrap (u + timesQ q y) = u + timesQ q y := IntWalk.i64_in _ (by omega)
            have s2 : IntKind.i64.wrap ((j : Int) + 1) = (j : Int) + 1 := IntWalk.i64_in _ (by omega)
            have s3 : (0 : Int) ≤ (j : Int) + 1 := by omega
            have s4 : ((j : Int) + 1).toNat = j + 1 := by omega
            have s5 : (0 : Int) ≤ j := by omega
            have s6 : (j : Int) < (more.length : Int) := by omega
            have s10 : (j : Int) + 1 < (places.length : Int) + 1 := by omega
            go_still_tail 16, (by kernel_rfl)
            still_call (rtimes_st _ _ _)
            repeat still_step
            still_call (rmod_st _ _)
            repeat still_step
            refine wpStill_nil ?_
            change wpList _ _ _ _ _ W2.drew
            clear s1 s2 s3 s4
            have hX2 : Row (W2.setCell ⟨X, j, none⟩ (.int .i64 ((u + timesQ q y) % 1073741789))).drew X 3 (mi (otTo q L more (j + 1) ++ List.replicate (more.length - (j + 1)) 0)) := by
              have := HX1.out.store j (.int .i64 ((u + timesQ q y) % 1073741789)); rw [mi_set, ot_set2 _ _ _ _ _ _ hj, ← HOF.out, ot_next] at this; rw [← HOF.out]; exact this
            have hR2 : Row (W2.setCell ⟨X, j, none⟩ (.int .i64 ((u + timesQ q y) % 1073741789))).drew gg 3 (mi L) := HR1.out.other (p := ⟨X, j, none⟩) (by simp only []; omega) _
            have hB2 : Below w.heap.size w (W2.setCell ⟨X, j, none⟩ (.int .i64 ((u + timesQ q y) % 1073741789))).drew := (HB1.out.setCell (p := ⟨X, j, none⟩) (by simp only []; omega) _).drew
            have HX2 := Lib.hid hX2
            have HR2 := Lib.hid hR2
            have HB2 := Lib.hid hB2
            clear hX2 hR2 hB2
            go_wp2_with fail
            go_roundg (gk - 1)
            case measure => omega
            case rel => exact ⟨HB2.out, j + 1, by go_num, by omega, HR2.out, HX2.out⟩
          · have hL3 : ¬ j < places.length := by have := HLK.out; omega
            rw [if_neg hL2] at hof
            have hX2 : Row (wr.setCell ⟨X, j, none⟩ (.int .i64 u)) X 3 (mi (otTo q L more (j + 1) ++ List.replicate (more.length - (j + 1)) 0)) := by
              rw [← ot_next, hof]; exact hX1
            have HX2 := Lib.hid hX2
            clear cm hX1 hR1 hB1 hR hX hBq hof hE hu hx hL2 hX2
            go_wp2_with (go_at_call 52; refine (HCM.out _).mono ?_; rintro e w1 ⟨rfl, rfl⟩)
            go_roundg (gk - 1)
            case measure => omega
            case rel => exact ⟨HB1.out, j + 1, by go_num, by omega, HR1.out, HX2.out⟩
        · obtain rfl : j = more.length := by omega
          have hX3 : Hid (SlI wr wr.heap.size (.slice (some ⟨X, 0, none⟩) more.length more.length) (otherL s more o places)) := by
            have h1 : Row wr X 3 ((otherL s more o places).flatMap encI) := by
              rw [encI_map, HOT.out]
              rw [Nat.sub_self, List.replicate_zero, List.append_nil] at hX
              exact hX
            have h2 := Row.sl (m := 1) (c := more.length) h1 (fun _ => rfl) (by rw [otherL_length]; omega) (B0 := wr.heap.size) hX.lt
            rw [otherL_length] at h2
            exact h2
          clear hX hR
          go_wp2_with fail
          go_ret
          exact ⟨_, rfl, hBq, hX3.out⟩
end Go.Proofs.Ytlenfjpogmmfhaa
