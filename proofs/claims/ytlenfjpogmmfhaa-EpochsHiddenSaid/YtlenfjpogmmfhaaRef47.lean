import Derived.Test.YtlenfjpogmmfhaaRef11
import Derived.Test.YtlenfjpogmmfhaaGroupRef
namespace Go.Proofs.Ytlenfjpogmmfhaa
open Go.RowKit Fk

set_option maxHeartbeats 1000000 in
theorem rvalue_any (s x : Int) (l : List Int) (v : Value) (w : World) (B0 : Nat) (hs : 0 ≤ s ∧ s < 1073741789) (h : SlI w B0 v l) :
    Calls Try.prog 46 #[.int .i64 s, v, .int .i64 x] w fun e w' => e = .returned (.int .i64 (pval s l x)) ∧ w = w' := by
  have HS := Lib.hid h
  obtain ⟨hlen, A, c, rfl, _⟩ := h
  have hs' : s % 1073741789 = s := Int.emod_eq_of_lt hs.1 hs.2
  go_enter Try.func46, Try.ntmps46
  go_wp2_with (go_at_call 52; refine (rmod_any _ _).mono ?_; rintro e w1 ⟨rfl, rfl⟩)
  go_loopg [7, 8, 9] l.length (fun g n p i wr => w = wr ∧ ∃ (k : Nat) (n' pw : Int), i = .int .i64 k ∧ k + g = l.length ∧ n = .int .i64 n' ∧ p = .int .i64 pw ∧ RVal s x l k n' pw)
  case atStart => exact ⟨rfl, 0, s, 1, rfl, by omega, rfl, rfl, RVal.start s x l hs⟩
  case round =>
    clear hs'
    obtain ⟨rfl, k, n', pw, rfl, hk, rfl, rfl, hI⟩ := hrel
    have hI0 := hI
    obtain ⟨_, n1, n2, p1, p2⟩ := hI0
    by_cases hlt : k < l.length
    · obtain ⟨_, A', c', hv, hE⟩ := HS.out
      obtain ⟨b, off, rfl, hb, hE⟩ := hE (by omega)
      cases hv
      have d1 := hE.int hlt
      have hst := hI.step hlt
      obtain ⟨m, hm⟩ : ∃ m, l.getD k default = m := ⟨_, rfl⟩
      rw [hm] at d1 hst
      have e1 : timesQ pw x = pw * (x % 1073741789) % 1073741789 := by unfold timesQ; rw [Int.emod_eq_of_lt p1 p2]
      have b1 := timesQ_bd pw x
      have e2' : ∀ T : Int, 0 ≤ T ∧ T < 1073741789 → timesQ m T = m % 1073741789 * T % 1073741789 := fun T h => by unfold timesQ; rw [Int.emod_eq_of_lt h.1 h.2]
      have e2 := e2' _ b1
      rw [← e1, ← e2] at hst
      have HST := Lib.hid hst
      clear e1 e2 e2' hst hm hI hE
      have b2 := timesQ_bd m (timesQ pw x)
      go_wp2_with (go_at_call 50; refine (rtimes_any _ _ _).mono ?_; rintro e w1 ⟨rfl, rfl⟩)
      go_roundg (gk - 1)
      case measure => omega
      case rel => exact ⟨rfl, k + 1, _, _, by go_num, by omega, rfl, rfl, HST.out⟩
    · obtain rfl : k = l.length := by omega
      have H := Lib.hid hI.done
      clear hI
      go_wp2
      go_ret
      exact ⟨ret_int H.out, rfl⟩
set_option maxHeartbeats 2000000 in
theorem rdeal_in (s n : Int) (l : List Int) (v : Value) (w : World) (B0 : Nat) (hB : B0 ≤ w.heap.size) (h : SlI w B0 v l) (hok : dealOK s l.length n) :
    Calls Try.prog 33 #[.int .i64 s, v, .int .i64 n] w fun e w' => ∃ r, e = .returned (.tuple #[r, .int .i64 0]) ∧ Below w.heap.size w w' ∧ SlSh w' w'.heap.size r (dealTo s l n.toNat) := by
  have HS := Lib.hid h
  obtain ⟨hlen, A, c, rfl, _⟩ := h
  obtain ⟨hs1, hs2, hn1, hn2, hk⟩ := hok
  obtain ⟨i0, hi, hz0, hz1, hz2⟩ := info_parts infoSh
  go_enter Try.func33, Try.ntmps33
  go_wp2_with fail
  go_loopg [8, 9] n.toNat (fun g r x wr => Below w.heap.size w wr ∧ ∃ k : Nat, x = .int .i64 ((k : Int) + 1) ∧ (k : Int) + g = n ∧ wr.ownsRow w.heap.size 55 2 r k ((dealTo s l k).flatMap encSh))
  case atStart => exact ⟨Below.refl _ _, 0, rfl, by omega, by simpa [dealTo] using World.ownsRow_nil w _ _ _⟩
  case round =>
    obtain ⟨hBr, k, rfl, hkg, hown⟩ := hrel
    have hzw := hBr.size
    by_cases hlt : (k : Int) + 1 ≤ n
    · have hpb := pval_bd s l ((k : Int) + 1)
      have hds := dealTo_succ s l k
      obtain ⟨p, hp⟩ : ∃ p, pval s l ((k : Int) + 1) = p := ⟨_, rfl⟩
      have hc := rvalue_any s ((k : Int) + 1) l (.slice A l.length c) wr B0 ⟨by omega, hs2⟩ (HS.out.belowN hBr hB)
      rw [hp] at hpb hds hc
      have HC := Lib.hid hc
      have HD := Lib.hid hds
      clear hds hc hp
      go_wp2_with (first | (go_at_call 46; refine HC.out.mono ?_; rintro e w1 ⟨rfl, rfl⟩) | (at_builtin; refine wpList_append_own _ rfl _ _ 40 rfl w.heap.size 55 i0 (.agg #[.int .i64 0, .int .i64 0]) 2 16 Try.underlying40 hi hz0 hz1 hz2 rfl (by decide) _ _ _ rfl (hown.alloc _) ⟨wr.heap.size, 0, none⟩ 1 1 [.int .i64 ((k : Int) + 1), .int .i64 p] rfl rfl (cell_two_new _ _ _ _) (by simp [Value.oneCell']) (by unfold maxLen; omega) (by omega) (by simp; omega) ?_; intro v' w2 hown' hgrow _))
      go_roundg (gk - 1)
      case measure => omega
      case rel =>
        refine ⟨(hBr.alloc hBr.size _).grown hgrow (by simp; omega) (fun r e => (hown.lt r e).1), k + 1, by go_num, by omega, ?_⟩
        rw [HD.out, List.flatMap_append]
        exact hown'
    · obtain rfl : n = (k : Int) := by omega
      have hr : Hid (SlSh wr wr.heap.size u8 (dealTo s l (k : Int).toNat)) := own_sl hown (fun _ => rfl) (by simp [dealTo_length]) (by simp [dealTo_length]; omega)
      clear hown
      go_wp2
      go_ret2
      exact ⟨_, rfl, hBr, hr.out⟩

set_option maxHeartbeats 1000000 in
theorem rdeal_bad (s n : Int) (A : Option Addr) (k c : Nat) (w : World) (_hk : k ≤ 9223372036854775807) (hok : ¬ dealOK s k n) :
    Calls Try.prog 33 #[.int .i64 s, .slice A k c, .int .i64 n] w fun e w' => e = .returned (.tuple #[.slice none 0 0, .int .i64 (dealE s k n)]) ∧ w = w' := by
  unfold dealOK at hok
  by_cases h1 : s < 1
  · have q : dealE s k n = 110 := by unfold dealE; rw [if_pos (by omega)]
    rw [q]; clear q hok
    go_enter Try.func33, Try.ntmps33
    go_wp2
    go_ret2
    exact ⟨rfl, rfl⟩
  by_cases h2 : 1073741789 ≤ s
  · have q : dealE s k n = 110 := by unfold dealE; rw [if_pos (by omega)]
    rw [q]; clear q hok
    go_enter Try.func33, Try.ntmps33
    go_wp2
    go_ret2
    exact ⟨rfl, rfl⟩
  have q : dealE s k n = 1 := by unfold dealE; rw [if_neg (by omega), if_pos (by omega)]
  rw [q]; clear q
  have hc : n < 1 ∨ 24 < n ∨ n ≤ k := by omega
  clear hok
  rcases hc with h3 | h3 | h3
  all_goals
    go_enter Try.func33, Try.ntmps33
    go_wp2
    all_goals go_ret2
    all_goals exact ⟨rfl, rfl⟩

theorem rdeal_any (s n : Int) (l : List Int) (v : Value) (w : World) (B0 : Nat) (hB : B0 ≤ w.heap.size) (h : SlI w B0 v l) :
    Calls Try.prog 33 #[.int .i64 s, v, .int .i64 n] w fun e w' => ∃ r, e = .returned (.tuple #[r, .int .i64 (dealE s l.length n)]) ∧ Below w.heap.size w w' ∧ SlSh w' w'.heap.size r (dealV s l n) := by
  by_cases hok : dealOK s l.length n
  · have q : dealE s l.length n = 0 := by unfold dealOK at hok; unfold dealE; rw [if_neg (by omega), if_neg (by omega)]
    have q2 : dealV s l n = dealTo s l n.toNat := by unfold dealV; rw [if_pos q]
    rw [q, q2]
    exact rdeal_in s n l v w B0 hB h hok
  · have q : dealE s l.length n ≠ 0 := by
      unfold dealOK at hok; unfold dealE
      split
      · omega
      · split
        · omega
        · omega
    have q2 : dealV s l n = [] := by unfold dealV; rw [if_neg q]
    rw [q2]
    obtain ⟨hlen, A, c, rfl, _⟩ := h
    exact (rdeal_bad s n A l.length c w hlen hok).mono fun e w' ⟨he, hw⟩ => ⟨_, he, hw ▸ Below.refl _ _, SlG.nil_ _ _⟩

theorem encI_map (l : List Int) : l.flatMap encI = l.map (Value.int .i64) := by
  induction l with
  | nil => rfl
  | cons a r ih => rw [List.flatMap_cons, ih]; rfl

set_option maxHeartbeats 1000000 in
theorem rrest_in (l : List Int) (v : Value) (w : World) (B0 : Nat) (hB : B0 ≤ w.heap.size) (h : SlI w B0 v l) (hl : l.length ≤ 24) :
    Calls Try.prog 31 #[v] w fun e w' => ∃ r, e = .returned (.tuple #[r, .int .i64 (restE l)]) ∧ Below w.heap.size w w' ∧ SlI w' w'.heap.size r (restV l) := by
  have HS := Lib.hid h
  obtain ⟨hlen, A, c, rfl, _⟩ := h
  have hmk := run_make_int (l.length + 1) (by omega)
  rw [show ((l.length + 1 : Nat) : Int) = (l.length : Int) + 1 from by omega] at hmk
  go_enter Try.func31, Try.ntmps31
  go_wp2_with fail
  go_loopg [4] l.length (fun g i wr => w = wr ∧ ∃ k : Nat, i = .int .i64 k ∧ k + g = l.length ∧ allV (l.take k) = true)
  case atStart => exact ⟨rfl, 0, rfl, by omega, rfl⟩
  case round =>
    obtain ⟨rfl, k, rfl, hk, hV⟩ := hrel
    by_cases hlt : k < l.length
    · have HS' := HS.out
      obtain ⟨_, A', c', hv, hE⟩ := HS'
      obtain ⟨b, off, rfl, hb, hE⟩ := hE (by omega)
      cases hv
      have d1 := hE.int hlt
      have hts : l.take (k + 1) = l.take k ++ [l.getD k default] := by
        rw [List.take_succ_eq_append_getElem hlt]; simp [hlt]
      have hal : allV l = true → vld (l.getD k default) = true := fun h => by
        unfold allV at h
        rw [List.all_eq_true] at h
        rw [List.getD_eq_getElem?_getD, List.getElem?_eq_getElem hlt]
        exact h _ (List.getElem_mem hlt)
      obtain ⟨x, hx⟩ : ∃ x, l.getD k default = x := ⟨_, rfl⟩
      rw [hx] at d1 hts hal
      cases hvx : vld x with
      | true =>
        have HV : Hid (allV (l.take (k + 1)) = true) := by
          show _ = _
          unfold allV at *
          rw [hts, List.all_append, hV]; simp [hvx]
        clear hts hal hx hE hV hmk
        go_wp2_with (go_at_call 19; refine (refvalid_any _ _).mono ?_; rintro e w1 ⟨rfl, rfl⟩)
        go_roundg (gk - 1)
        case measure => omega
        case rel => exact ⟨rfl, k + 1, by go_num, by omega, HV.out⟩
      | false =>
        have q2 : restE l = 90 := by
          unfold restE
          rw [if_neg (by omega), if_neg (fun h => by rw [hal h] at hvx; cases hvx)]
        have q3 : restV l = [] := by unfold restV; rw [if_neg (by rw [q2]; omega)]
        have HQ := Lib.hid q2
        have HQ3 := Lib.hid q3
        clear q2 q3 hts hal hx hE hV hmk
        go_wp2_with (go_at_call 19; refine (refvalid_any _ _).mono ?_; rintro e w1 ⟨rfl, rfl⟩)
        go_ret2
        exact ⟨.slice none 0 0, ret_t2 HQ.out.symm, Below.refl _ _, by rw [HQ3.out]; exact SlG.nil_ _ _⟩
    · obtain rfl : k = l.length := by omega
      rw [List.take_length] at hV
      have hvd : ∀ k, k < l.length → vld (l.getD k default) = true := fun k hk => by
        unfold allV at hV
        rw [List.all_eq_true] at hV
        rw [List.getD_eq_getElem?_getD, List.getElem?_eq_getElem hk]
        exact hV _ (List.getElem_mem hk)
      have HVD := Lib.hid hvd
      have HVA := Lib.hid hV
      clear hvd hV hk
      go_wp2
      have hW0 : Row (w.alloc (Obj.cells ((Array.replicate (l.length + 1) (Value.int IntKind.i64 0)).setIfInBounds l.length (Value.int IntKind.i64 1)) 3)) w.heap.size 3 (List.replicate l.length (Value.int .i64 0) ++ (restL (l.drop l.length)).map (Value.int .i64)) := by
        have e : (Array.replicate (l.length + 1) (Value.int IntKind.i64 0)).setIfInBounds l.length (Value.int IntKind.i64 1) = (List.replicate l.length (Value.int .i64 0) ++ (restL (l.drop l.length)).map (Value.int .i64)).toArray := by
          apply Array.ext'
          rw [List.drop_length]
          have := replicate_set l.length (.int .i64 1) []
          rw [List.append_nil] at this
          simpa [restL] using this
        rw [e]
        exact Row.new w _ _
      have hB0 : Below w.heap.size w (w.alloc (Obj.cells ((Array.replicate (l.length + 1) (Value.int IntKind.i64 0)).setIfInBounds l.length (Value.int IntKind.i64 1)) 3)) := (Below.refl _ _).alloc (Nat.le_refl _) _
      have hz0 : w.heap.size + 1 ≤ (w.alloc (Obj.cells ((Array.replicate (l.length + 1) (Value.int IntKind.i64 0)).setIfInBounds l.length (Value.int IntKind.i64 1)) 3)).heap.size := by simp
      generalize w.alloc (Obj.cells ((Array.replicate (l.length + 1) (Value.int IntKind.i64 0)).setIfInBounds l.length (Value.int IntKind.i64 1)) 3) = W0 at *
      clear hmk
      go_loopg [6] l.length (fun k i wr => Below w.heap.size w wr ∧ w.heap.size + 1 ≤ wr.heap.size ∧ i = .int .i64 ((k : Int) - 1) ∧ k ≤ l.length ∧ allV (l.drop k) = true ∧ Row wr w.heap.size 3 (List.replicate k (Value.int .i64 0) ++ (restL (l.drop k)).map (Value.int .i64)))
      case atStart => exact ⟨hB0, hz0, rfl, Nat.le_refl _, by rw [List.drop_length]; rfl, hW0⟩
      case round =>
        obtain ⟨hBr, hzr, rfl, hk, hV, hR⟩ := hrel
        cases gk with
        | zero =>
          have q2 : restE l = 0 := by
            unfold restE
            rw [if_neg (by omega), if_pos]
            simpa using hV
          have q3 : restV l = restL l := by unfold restV; rw [if_pos q2]
          have HQ := Lib.hid q2
          have HQ3 := Lib.hid q3
          have HR : Hid (SlI wr wr.heap.size (.slice (some ⟨w.heap.size, 0, none⟩) (l.length + 1) (l.length + 1)) (restL l)) := by
            have h1 : Row wr w.heap.size 3 ((restL l).flatMap encI) := by
              rw [encI_map]; simpa using hR
            have h2 := Row.sl (m := 1) (c := l.length + 1) h1 (fun _ => rfl) (by rw [restL_length]; omega) (B0 := wr.heap.size) (by omega)
            rw [restL_length] at h2
            exact h2
          clear q2 q3 hR hV
          go_wp2
          go_ret2
          exact ⟨_, ret_t2 HQ.out.symm, hBr, by rw [HQ3.out]; exact HR.out⟩
        | succ k =>
          rw [show ((k + 1 : Nat) : Int) - 1 = (k : Int) from by omega]
          have HS' := HS.out.below (hBr.mono hB)
          obtain ⟨_, A', c', hv, hE⟩ := HS'
          obtain ⟨b, off, rfl, hb, hE⟩ := hE (by omega)
          cases hv
          have d1 := hE.int (i := k) (by omega)
          have hdr := drop_consD (l := l) (k := k) (by omega)
          have hav := allV_drop (l := l) (k := k) (by omega)
          have hvx := HVD.out k (by omega)
          obtain ⟨x, hx⟩ : ∃ x, l.getD k default = x := ⟨_, rfl⟩
          rw [hx] at d1 hdr hav hvx
          obtain ⟨y, hy⟩ : ∃ y, (restL (l.drop (k + 1))).headD 0 = y := ⟨_, rfl⟩
          have hy2 : restL (l.drop (k + 1)) = y :: (restL (l.drop (k + 1))).tail := by
            have := restL_length (l.drop (k + 1))
            cases hr : restL (l.drop (k + 1)) with
            | nil => rw [hr] at this; simp at this
            | cons a r => rw [hr] at hy; simp at hy; simp [hy]
          have d2 : wr.cell? ⟨w.heap.size, k + 1, none⟩ = some (.int .i64 y) := by
            rw [hR.cell, List.getElem?_append_right (by simp), hy2]; simp
          have d3 : wr.cell? ⟨w.heap.size, k, none⟩ = some (.int .i64 0) := by
            rw [hR.cell, List.getElem?_append_left (by simp)]; simp
          have d4 := hR.frozen k
          have hvy : vld y = true := by rw [← hy]; exact restL_head hV
          have e1 : ∀ u, (wr.setCell ⟨w.heap.size, k, none⟩ u).cell? ⟨b, off + k, none⟩ = some (.int .i64 x) := fun u => (World.cell?_setCell_other wr _ _ u (fun e => by injection e; omega)).trans d1
          have e2 : ∀ u, (wr.setCell ⟨w.heap.size, k, none⟩ u).cell? ⟨w.heap.size, k + 1, none⟩ = some (.int .i64 y) := fun u => (World.cell?_setCell_other wr _ _ u (fun e => by injection e; omega)).trans d2
          have hBn : ∀ u, Below w.heap.size w (wr.setCell ⟨w.heap.size, k, none⟩ u).drew := fun u => (hBr.setCell (p := ⟨w.heap.size, k, none⟩) (Nat.le_refl _) u).drew
          have HBn := Lib.hid hBn
          clear hBn
          have HV : Hid (allV (l.drop k) = true) := by show _ = _; rw [hav, hvx, hV]; rfl
          have HR : Hid (∀ w1 : World, w1.heap[w.heap.size]? = (wr.setCell ⟨w.heap.size, k, none⟩ (.int .i64 (y * x % 2147483579))).heap[w.heap.size]? → Row w1 w.heap.size 3 (List.replicate k (Value.int .i64 0) ++ (restL (l.drop k)).map (Value.int .i64))) := by
            intro w1 hw1
            have h1 := (hR.store k (.int .i64 (y * x % 2147483579))).keep hw1
            rw [replicate_set] at h1
            rw [hdr, restL, hy]
            have em : mulC x y = y * x % 2147483579 := by simp [mulC, hvx, hvy, Int.mul_comm]
            rw [em]
            exact h1
          have l1 := vld_lo hvx
          have l2 := vld_hi hvx
          have l3 := vld_lo hvy
          have l4 := vld_hi hvy
          have m1 : 0 ≤ y * x := Int.mul_nonneg (by omega) (by omega)
          have m2 : y * x ≤ 2147483579 * 2147483579 := Int.mul_le_mul (by omega) (by omega) (by omega) (by omega)
          go_wp2_with fail
          have s1 : IntKind.i64.wrap ((k : Int) + 1) = (k : Int) + 1 := IntWalk.i64_in _ (by omega)
          have s2 : (0 : Int) ≤ (k : Int) + 1 := by omega
          have s3 : ((k : Int) + 1).toNat = k + 1 := by omega
          have s4 : (k : Int) < l.length := by omega
          have s5 : (0 : Int) ≤ k := by omega
          have s6 : (k : Int) + 1 < l.length + 1 := by omega
          have s7 : (k : Int) < (l.length : Int) + 1 := by omega
          have s8 : IntKind.i64.wrap (y * x) = y * x := IntWalk.i64_in _ (by omega)
          have s9 : (y * x).tmod 2147483579 = y * x % 2147483579 := Int.tmod_eq_emod_of_nonneg m1
          clear hdr hav hx hy hy2 hV hR hE
          go_region_held3 (fun w' => w'.cell? ⟨b, off + k, none⟩ = some (.int .i64 x) ∧ w'.cell? ⟨w.heap.size, k + 1, none⟩ = some (.int .i64 y)) (go_keep) (fail)
          all_goals clear s1 s2 s3 s6 s7 s8 s9
          all_goals go_wp2
          all_goals go_roundg k
          all_goals first | (case measure => omega) | exact ⟨HBn.out _, by simp [World.setCell]; omega, by go_num, by omega, HV.out, HR.out _ rfl⟩

set_option maxHeartbeats 400000 in
theorem rrest_any (l : List Int) (v : Value) (w : World) (B0 : Nat) (hB : B0 ≤ w.heap.size) (h : SlI w B0 v l) :
    Calls Try.prog 31 #[v] w fun e w' => ∃ r, e = .returned (.tuple #[r, .int .i64 (restE l)]) ∧ Below w.heap.size w w' ∧ SlI w' w'.heap.size r (restV l) := by
  by_cases hl : l.length ≤ 24
  · exact rrest_in l v w B0 hB h hl
  · obtain ⟨hlen, A, c, rfl, _⟩ := h
    have q2 : restE l = 2 := by unfold restE; rw [if_pos (by omega)]
    have q3 : restV l = [] := by unfold restV; rw [if_neg (by rw [q2]; omega)]
    rw [q2, q3]
    clear q2 q3
    have core : Calls Try.prog 31 #[.slice A l.length c] w fun e w' => e = .returned (.tuple #[.slice none 0 0, .int .i64 2]) ∧ w = w' := by
      go_enter Try.func31, Try.ntmps31
      go_wp2
      go_ret2
      exact ⟨rfl, rfl⟩
    exact core.mono fun e w' ⟨he, hw⟩ => ⟨_, he, hw ▸ Below.refl _ _, SlG.nil_ _ _⟩
end Go.Proofs.Ytlenfjpogmmfhaa
