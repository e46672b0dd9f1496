import Derived.Test.YtaheibbbdglcmaaDoorPkk
import Derived.Deep.LoopGhost
import Derived.Deep.Cut
set_option linter.unusedSimpArgs false
set_option linter.unusedVariables false
namespace Go.Proofs.YtaheibbbdglcmaaDoor
open Go.RowKit Go.Shelf Fk Sha
/-! EqualParts: letters are accepted together exactly if each is accepted alone. -/
def condK (key : Int) (a b : Se) (p : Pt) (k : Nat) : Bool := decide ((b.get k).a = (a.get k).a) && chkB key (a.get k).a (mulC (a.get k).b (powC (b.get k).b (-1))) (p.get k)
theorem all_getD {l : List Se} : l.all okS = true ↔ ∀ i, i < l.length → okS (l.getD i default) = true := by
  rw [List.all_eq_true]
  constructor
  · intro h i hi
    refine h _ ?_
    rw [List.getD_eq_getElem?_getD, List.getElem?_eq_getElem hi]; exact List.getElem_mem _
  · intro h s hs
    obtain ⟨i, hi, rfl⟩ := List.getElem_of_mem hs
    have := h i hi
    rwa [List.getD_eq_getElem?_getD, List.getElem?_eq_getElem hi] at this
theorem all_range {n : Nat} {f : Nat → Bool} : (List.range n).all f = true ↔ ∀ j, j < n → f j = true := by
  rw [List.all_eq_true]; simp [List.mem_range]
theorem cbB_iff {key : Int} {l x : List Se} {ps : List Pt} (hv : vld key = true) (h1 : l.length = x.length) (h2 : l.length = ps.length) (h6 : l.length ≤ 64) :
    cbB key l x ps = true ↔ ∀ i, i < l.length → okS (l.getD i default) = true ∧ okS (x.getD i default) = true ∧ ∀ k, k < 3 → condK key (l.getD i default) (x.getD i default) (ps.getD i default) k = true := by
  unfold cbB cbHd
  simp only [Bool.and_eq_true, decide_eq_true_eq, letE_0, all_getD, all_range]
  constructor
  · rintro ⟨⟨_, _, _, ⟨_, ha⟩, _, hb⟩, hc⟩ i hi
    refine ⟨ha i hi, hb i (by omega), fun k hk => ?_⟩
    have := hc (3 * i + k) (by omega)
    unfold plOK at this
    rwa [show (3 * i + k) / 3 = i by omega, show (3 * i + k) % 3 = k by omega] at this
  · intro h
    refine ⟨⟨hv, h1, h2, ⟨h6, fun i hi => (h i hi).1⟩, by omega, fun i hi => (h i (by omega)).2.1⟩, fun j hj => ?_⟩
    exact (h (j / 3) (by omega)).2.2 (j % 3) (by omega)
def oneB (key : Int) (l x : List Se) (ps : List Pt) (i : Nat) : Bool := cbB key [l.getD i default] [x.getD i default] [ps.getD i default]
theorem parts_law {key : Int} {l x : List Se} {ps : List Pt} (hv : vld key = true) (h1 : l.length = x.length) (h2 : l.length = ps.length) (h6 : l.length ≤ 64) : (List.range l.length).all (oneB key l x ps) = cbB key l x ps := by
  rw [Bool.eq_iff_iff, cbB_iff hv h1 h2 h6, all_range]
  constructor
  · intro h i hi
    have := h i hi
    unfold oneB at this
    exact (cbB_iff (l := [l.getD i default]) (x := [x.getD i default]) (ps := [ps.getD i default]) hv rfl rfl (by simp)).1 this 0 (by simp)
  · intro h i hi
    unfold oneB
    refine (cbB_iff (l := [l.getD i default]) (x := [x.getD i default]) (ps := [ps.getD i default]) hv rfl rfl (by simp)).2 (fun j hj => ?_)
    obtain rfl : j = 0 := by simp at hj; omega
    exact h i hi
theorem all_succ (f : Nat → Bool) (k : Nat) : (List.range (k + 1)).all f = ((List.range k).all f && f k) := by
  rw [List.range_succ, List.all_append]; simp
theorem slG_one {α : Type} [Inhabited α] {m : Nat} {en : α → List Value} {w : World} {B0 b o c : Nat} {l : List α} {k : Nat} (h : SlG m en w B0 (.slice (some ⟨b, o, none⟩) l.length c) l) (hk : k < l.length) (c' : Nat) : SlG m en w B0 (.slice (some ⟨b, o + k * m, none⟩) 1 c') [l.getD k default] := by
  obtain ⟨_, A, c2, hv, hE⟩ := h
  obtain ⟨b', o', hA, hb, hE⟩ := hE (by omega)
  injection hv with hv _ _
  rw [hA] at hv
  injection hv with hv
  injection hv with e1 e2 _
  subst e1 e2
  refine ⟨by simp, _, c', rfl, fun _ => ⟨b, o + k * m, rfl, hb, fun i hi j hj => ?_⟩⟩
  obtain rfl : i = 0 := by simp at hi; omega
  rw [show o + k * m + 0 * m + j = o + k * m + j by omega]
  exact hE k hk j hj
set_option maxRecDepth 100000 in
set_option maxHeartbeats 4000000 in
theorem parts_few (key : Int) (A1 A2 A3 : Option Addr) (n1 n2 n3 c1 c2 c3 : Nat) (w : World) (hT : TabOK w) (h : ¬ (n1 ≤ 6 ∧ n2 = n1 ∧ n3 = n1 ∧ vld key = true)) :
    Calls Tryd.prog 8 #[.int .i64 key, .slice A1 n1 c1, .slice A2 n2 c2, .slice A3 n3 c3] w fun e w' => e = .returned (.bool true) ∧ Below w.heap.size w w' := by
  have sn := fun W (hb : Below w.heap.size w W) => sane12 W (hT.below hb)
  have v1 := fun W => refvalid_any key W
  obtain ⟨v, hv⟩ : ∃ v, vld key = v := ⟨_, rfl⟩
  rw [hv] at v1 h
  have SN := Lib.hid sn
  have V1 := Lib.hid v1
  clear sn v1 hv hT
  have hB := Below.refl w.heap.size w
  by_cases h1 : n1 ≤ 6
  · have g1 : decide ((n1 : Int) > 6) = false := decide_eq_false (by omega)
    have g1' : decide ((6 : Int) < (n1 : Int)) = false := decide_eq_false (by omega)
    by_cases h2 : n2 = n1
    · have g2 : ((n2 : Int) != (n1 : Int)) = false := by simp [h2]
      by_cases h3 : n3 = n1
      · have g3 : ((n3 : Int) != (n1 : Int)) = false := by simp [h3]
        obtain rfl : v = false := by
          cases v with
          | false => rfl
          | true => exact absurd ⟨h1, h2, h3, rfl⟩ h
        clear h h1 h2 h3
        go_enter Tryd.func8, Tryd.ntmps8
        go_wp2_with (first
          | (go_at_call 18; (with_reducible refine (SN.out _ hB).mono ?_); rintro e w1 ⟨rfl, hb⟩; replace hB := hB.trans (hb.mono hB.size); clear hb)
          | (go_at_call 27; (with_reducible refine (V1.out _).mono ?_); rintro e w2 ⟨rfl, rfl⟩))
        go_ret
        exact ⟨rfl, hB⟩
      · have g3 : ((n3 : Int) != (n1 : Int)) = true := by simp; omega
        clear h h1 h2 h3
        go_enter Tryd.func8, Tryd.ntmps8
        go_wp2_with (go_at_call 18; (with_reducible refine (SN.out _ hB).mono ?_); rintro e w1 ⟨rfl, hb⟩; replace hB := hB.trans (hb.mono hB.size); clear hb)
        go_ret
        exact ⟨rfl, hB⟩
    · have g2 : ((n2 : Int) != (n1 : Int)) = true := by simp; omega
      clear h h1 h2
      go_enter Tryd.func8, Tryd.ntmps8
      go_wp2_with (go_at_call 18; (with_reducible refine (SN.out _ hB).mono ?_); rintro e w1 ⟨rfl, hb⟩; replace hB := hB.trans (hb.mono hB.size); clear hb)
      go_ret
      exact ⟨rfl, hB⟩
  · have g1 : decide ((n1 : Int) > 6) = true := decide_eq_true (by omega)
    have g1' : decide ((6 : Int) < (n1 : Int)) = true := decide_eq_true (by omega)
    clear h h1
    go_enter Tryd.func8, Tryd.ntmps8
    go_wp2_with (go_at_call 18; (with_reducible refine (SN.out _ hB).mono ?_); rintro e w1 ⟨rfl, hb⟩; replace hB := hB.trans (hb.mono hB.size); clear hb)
    go_ret
    exact ⟨rfl, hB⟩
set_option maxRecDepth 100000 in
set_option maxHeartbeats 8000000 in
theorem parts_main (key : Int) (l x : List Se) (ps : List Pt) (A1 A2 A3 : Option Addr) (c1 c2 c3 : Nat) (w : World) (hT : TabOK w) (hl : SlS w w.heap.size (.slice A1 l.length c1) l) (hx : SlS w w.heap.size (.slice A2 l.length c2) x) (hp : SlP w w.heap.size (.slice A3 l.length c3) ps)
    (h1 : l.length = x.length) (h2 : l.length = ps.length) (h6 : l.length ≤ 6) (hv : vld key = true) (hc1 : l.length ≤ c1) (hc2 : l.length ≤ c2) (hc3 : l.length ≤ c3) (m1 : c1 ≤ maxLen) (m2 : c2 ≤ maxLen) (m3 : c3 ≤ maxLen) :
    Calls Tryd.prog 8 #[.int .i64 key, .slice A1 l.length c1, .slice A2 l.length c2, .slice A3 l.length c3] w fun e w' => e = .returned (.bool true) ∧ Below w.heap.size w w' := by
  unfold maxLen at m1 m2 m3
  have sn := fun W (hb : Below w.heap.size w W) => sane12 W (hT.below hb)
  have v1 := fun W => refvalid_any key W
  rw [hv] at v1
  have hlast := fun W (hb : Below w.heap.size w W) => checkbare_any key l x ps A1 A2 A3 c1 c2 c3 W (hT.below hb) ((hl.below hb).mono hb.size) (by rw [← h1]; exact (hx.below hb).mono hb.size) (by rw [← h2]; exact (hp.below hb).mono hb.size)
  rw [← h1, ← h2] at hlast
  have hlaw := parts_law hv h1 h2 (by omega : l.length ≤ 64)
  have hone : ∀ (k : Nat), k < l.length → ∃ b1 o1 b2 o2 b3 o3, A1 = some ⟨b1, o1, none⟩ ∧ A2 = some ⟨b2, o2, none⟩ ∧ A3 = some ⟨b3, o3, none⟩ ∧
      (∀ W, Below w.heap.size w W → Calls Tryd.prog 28 #[.int .i64 key, .slice (some ⟨b1, o1 + k * 6, none⟩) 1 (c1 - k), .slice (some ⟨b2, o2 + k * 6, none⟩) 1 (c2 - k), .slice (some ⟨b3, o3 + k * 6, none⟩) 1 (c3 - k)] W fun e w' => e = .returned (.bool (oneB key l x ps k)) ∧ Below W.heap.size W w') := by
    intro k hk
    obtain ⟨_, A, c, e1, hE1⟩ := id hl
    obtain ⟨b1, o1, rfl, _, _⟩ := hE1 (by omega)
    obtain ⟨_, A, c, e2, hE2⟩ := id hx
    obtain ⟨b2, o2, rfl, _, _⟩ := hE2 (by omega)
    obtain ⟨_, A, c, e3, hE3⟩ := id hp
    obtain ⟨b3, o3, rfl, _, _⟩ := hE3 (by omega)
    injection e1 with e1 _ _
    injection e2 with e2 _ _
    injection e3 with e3 _ _
    subst e1 e2 e3
    refine ⟨b1, o1, b2, o2, b3, o3, rfl, rfl, rfl, fun W hb => ?_⟩
    have q1 := slG_one ((hl.below hb).mono hb.size) hk (c1 - k)
    have q2 := slG_one (show SlS W W.heap.size (.slice (some ⟨b2, o2, none⟩) x.length c2) x by rw [← h1]; exact (hx.below hb).mono hb.size) (by omega : k < x.length) (c2 - k)
    have q3 := slG_one (show SlP W W.heap.size (.slice (some ⟨b3, o3, none⟩) ps.length c3) ps by rw [← h2]; exact (hp.below hb).mono hb.size) (by omega : k < ps.length) (c3 - k)
    exact checkbare_any key [l.getD k default] [x.getD k default] [ps.getD k default] _ _ _ _ _ _ W (hT.below hb) q1 q2 q3
  have SN := Lib.hid sn
  have V1 := Lib.hid v1
  have HLAST := Lib.hid hlast
  have HLAW := Lib.hid hlaw
  have HONE := Lib.hid hone
  clear sn v1 hlast hlaw hone hl hx hp hT hv h1 h2
  have hB := Below.refl w.heap.size w
  have g1 : decide ((l.length : Int) > 6) = false := decide_eq_false (by omega)
  have g1' : decide ((6 : Int) < (l.length : Int)) = false := decide_eq_false (by omega)
  have g2 : ((l.length : Int) != (l.length : Int)) = false := by simp
  go_enter Tryd.func8, Tryd.ntmps8
  go_wp2_with (first
    | (go_at_call 18; (with_reducible refine (SN.out _ hB).mono ?_); rintro e w1 ⟨rfl, hb⟩; replace hB := hB.trans (hb.mono hB.size); clear hb)
    | (go_at_call 27; (with_reducible refine (V1.out _).mono ?_); rintro e w2 ⟨rfl, rfl⟩))
  go_loopg [9, 37] l.length (fun g av iv wr => ∃ k : Nat, iv = .int .i64 k ∧ k + g = l.length ∧ av = .bool ((List.range k).all (oneB key l x ps)) ∧ Below w.heap.size w wr)
  case atStart => exact ⟨0, rfl, by omega, rfl, hB⟩
  case round =>
    obtain ⟨k, rfl, hkg, rfl, hBr⟩ := hrel
    by_cases hlt : k < l.length
    · obtain ⟨b1, o1, b2, o2, b3, o3, rfl, rfl, rfl, hcall⟩ := HONE.out k hlt
      have hal := all_succ (oneB key l x ps) k
      obtain ⟨z, hzz⟩ : ∃ z, oneB key l x ps k = z := ⟨_, rfl⟩
      obtain ⟨y, hyy⟩ : ∃ y, (List.range k).all (oneB key l x ps) = y := ⟨_, rfl⟩
      rw [hzz, hyy] at hal
      rw [hzz] at hcall
      rw [hyy]
      have HAL := Lib.hid hal
      have HC := Lib.hid hcall
      have hwk : IntKind.i64.wrap ((k : Int) + 1) = (k : Int) + 1 := IntWalk.i64_in _ (by omega)
      have t1 : (k : Int) + 1 ≤ c1 := by omega
      have t2 : (k : Int) + 1 ≤ c2 := by omega
      have t3 : (k : Int) + 1 ≤ c3 := by omega
      have t4 : ((k : Int) + 1).toNat = k + 1 := by omega
      have t8 : (0 : Int) ≤ (k : Int) + 1 := by omega
      have t5 : ¬ c1 = k := by omega
      have t6 : ¬ c2 = k := by omega
      have t7 : ¬ c3 = k := by omega
      clear hal hcall hzz hyy HONE HLAST HLAW
      have s1 : (0 : Int) ≤ k := by omega
      have s2 : (k : Int) < l.length := by omega
      cases y with
      | true =>
        go_upto_region 9 with fail
        refine wp_region_ord 18 [(1, 0), (1, 1), (1, 2), (1, 3), (1, 4), (1, 5), (1, 6), (1, 7), (1, 8), (1, 9), (1, 10), (1, 11), (1, 12), (1, 13), (1, 14), (1, 15), (1, 16), (2, 17)] (fun _ => True) (by kernel_rfl) (by kernel_rfl) (fun _ _ d _ _ h => by cases d <;> exact h) trivial ?_
        have hD : Below w.heap.size w wr.drew := hBr.drew
        generalize wr.drew = W1 at hD ⊢
        iterate 17
          refine wpOrd_take (v := ?_) rfl (by go_simp) (fun w hSw => ?_) ?_
          rotate_left 1
          · go_simp
            with_reducible rfl
          simp only [Act.put, List.setIfInBounds_toArray, List.set_cons_zero, List.set_cons_succ]
        refine wpOrd_step rfl (fun K hK => ⟨by go_simp, ?_⟩)
        go_simp
        refine hK _ _ trivial ?_
        clear hK K
        try simp only [Act.put, List.setIfInBounds_toArray, List.set_cons_zero, List.set_cons_succ]
        refine wpOrd_nil ?_
        simp only [List.drop_succ_cons, List.drop_zero]
        go_wp2_with (go_at_call 28; (with_reducible refine (HC.out _ hD).mono ?_); rintro e w3 ⟨rfl, hb⟩)
        go_roundg (gk - 1)
        case measure => omega
        case rel => exact ⟨k + 1, by first | rfl | go_num, by omega, by rw [HAL.out]; rfl, hD.trans (hb.mono hD.size)⟩
      | false =>
        go_upto_region 9 with fail
        refine wp_region_ord 18 [(1, 0), (1, 1), (1, 2), (1, 3), (1, 4), (1, 5), (1, 6), (1, 7), (1, 8), (1, 9), (1, 10), (1, 11), (1, 12), (1, 13), (1, 14), (1, 15), (1, 16), (1, 17)] (fun _ => True) (by kernel_rfl) (by kernel_rfl) (fun _ _ d _ _ h => by cases d <;> exact h) trivial ?_
        have hD : Below w.heap.size w wr.drew := hBr.drew
        generalize wr.drew = W1 at hD ⊢
        iterate 2
          refine wpOrd_take (v := ?_) rfl (by go_simp) (fun w hSw => ?_) ?_
          rotate_left 1
          · go_simp
            with_reducible rfl
          simp only [Act.put, List.setIfInBounds_toArray, List.set_cons_zero, List.set_cons_succ]
        iterate 15
          refine wpOrd_skip rfl (by go_simp) ?_
          simp only [Act.put, List.setIfInBounds_toArray, List.set_cons_zero, List.set_cons_succ]
        refine wpOrd_skip_last rfl (by go_simp) (fun a' ha' => ?_)
        simp only [Act.put, List.setIfInBounds_toArray, List.set_cons_zero, List.set_cons_succ] at ha'
        subst ha'
        simp only [List.drop_succ_cons, List.drop_zero]
        go_wp2_with fail
        go_roundg (gk - 1)
        case measure => omega
        case rel => exact ⟨k + 1, by first | rfl | go_num, by omega, by rw [HAL.out]; rfl, hD⟩
    · obtain rfl : k = l.length := by omega
      have hl2 := HLAST.out wr hBr
      rw [HLAW.out]
      obtain ⟨z, hzz⟩ : ∃ z, cbB key l x ps = z := ⟨_, rfl⟩
      rw [hzz] at hl2 ⊢
      have HC := Lib.hid hl2
      clear hl2 hzz HONE HLAST HLAW
      go_wp2_with (go_at_call 28; (with_reducible refine HC.out.mono ?_); rintro e w3 ⟨rfl, hb⟩)
      all_goals
        go_ret
        exact ⟨by simp, hBr.trans (hb.mono hBr.size)⟩
theorem equalParts_walk (key : Int) (l : List Se) (v1 : Value) (x : List Se) (v2 : Value) (ps : List Pt) (v3 : Value) (w : World) (hT0 : Tab w) (hz0 : 1 < w.heap.size ∧ 0 < w.heap.size) (hl : SlS w w.heap.size v1 l) (hx : SlS w w.heap.size v2 x) (hp : SlP w w.heap.size v3 ps) (_ : (Lit.int .i64 key).wf = true)
    (w1 : ∃ A c, v1 = .slice A l.length c ∧ l.length ≤ c ∧ c ≤ maxLen) (w2 : ∃ A c, v2 = .slice A x.length c ∧ x.length ≤ c ∧ c ≤ maxLen) (w3 : ∃ A c, v3 = .slice A ps.length c ∧ ps.length ≤ c ∧ c ≤ maxLen) :
    Calls Tryd.prog 8 #[.int .i64 key, v1, v2, v3] w fun e w' => e = .returned (.bool true) ∧ Below w.heap.size w w' := by
  obtain ⟨A1, c1, rfl, a1, b1⟩ := w1
  obtain ⟨A2, c2, rfl, a2, b2⟩ := w2
  obtain ⟨A3, c3, rfl, a3, b3⟩ := w3
  by_cases h : l.length ≤ 6 ∧ x.length = l.length ∧ ps.length = l.length ∧ vld key = true
  · obtain ⟨h6, h1, h2, hv⟩ := h
    have := parts_main key l x ps A1 A2 A3 c1 c2 c3 w ⟨hT0, hz0⟩ hl (by rw [← h1]; exact hx) (by rw [← h2]; exact hp) h1.symm h2.symm h6 hv a1 (by omega) (by omega) b1 b2 b3
    rwa [show Value.slice A2 l.length c2 = Value.slice A2 x.length c2 by rw [h1], show Value.slice A3 l.length c3 = Value.slice A3 ps.length c3 by rw [h2]] at this
  · exact parts_few key A1 A2 A3 _ _ _ c1 c2 c3 w ⟨hT0, hz0⟩ h
end Go.Proofs.YtaheibbbdglcmaaDoor
