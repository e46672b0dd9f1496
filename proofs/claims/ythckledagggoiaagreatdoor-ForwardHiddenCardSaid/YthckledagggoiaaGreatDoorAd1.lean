import Derived.Test.YthckledagggoiaaGreatDoorHd0
import Derived.Test.YthckledagggoiaaGreatDoorAr4
import Derived.Deep.LoopGhost
import Derived.Deep.Cut
import Derived.Maps.AppendAt
import Derived.Deep.QuietTactic
import Derived.BigQuiet
set_option linter.unusedSimpArgs false
set_option linter.unusedVariables false
namespace Go.Proofs.YthckledagggoiaaGreatDoor
open Go.RowKit Go.Shelf Fk Sha
/-! frankingref33.Add -/
def lowE (l : List En) (x : En) : List En := l.filter (fun y => decide (y.no < x.no))
def highE (l : List En) (x : En) : List En := l.filter (fun y => !decide (y.no < x.no))
def addE (l : List En) (x : En) : Int := if validB x then (if l.any (fun y => y.no == x.no) then 181 else 0) else 330
theorem addE_0 {l : List En} {x : En} (h : addE l x = 0) : validB x = true ∧ ∀ y ∈ l, y.no ≠ x.no := by
  unfold addE at h
  cases hv : validB x with
  | false => rw [hv] at h; simp at h
  | true =>
    rw [hv, if_pos rfl] at h
    cases ha : l.any (fun y => y.no == x.no) with
    | true => rw [ha] at h; simp at h
    | false =>
      refine ⟨rfl, fun y hy e => ?_⟩
      rw [List.any_eq_false] at ha
      exact ha y hy (by rw [e]; exact beq_self_eq_true _)
theorem takeE {l : List En} {k : Nat} (h : k < l.length) : l.take (k + 1) = l.take k ++ [l.getD k default] := by
  rw [List.take_add_one, List.getD_eq_getElem?_getD, List.getElem?_eq_getElem h]; rfl
theorem own_slice {W : World} {base n m g : Nat} {e : TypeId} {v : Value} {xs : List Value} (h : W.ownsRow base e m v n xs) (hg : v.ownBlock = some g) : ∃ cap, v = .slice (some ⟨g, 0, none⟩) n cap := by
  rcases h.2 with ⟨rfl, _⟩ | ⟨g', cap, cur, rfl, _⟩
  · cases hg
  · simp only [Value.ownBlock, Option.some.injEq] at hg
    subst hg
    exact ⟨cap, rfl⟩
structure AdS (w1 W : World) (b0 : Nat) (l : List En) (x : En) (k : Nat) (xv yv : Value) : Prop where
  bel : Below w1.heap.size w1 W
  ox : W.ownsRow w1.heap.size 49 8 xv (lowE (l.take k) x).length ((lowE (l.take k) x).flatMap En.cells)
  oy : W.ownsRow w1.heap.size 49 8 yv (highE (l.take k) x).length ((highE (l.take k) x).flatMap En.cells)
  ap : ∃ gx gy, xv.ownBlock = some gx ∧ yv.ownBlock = some gy ∧ gx ≠ gy
theorem AdS.drew {w1 W : World} {b0 : Nat} {l : List En} {x : En} {k : Nat} {xv yv : Value} (h : AdS w1 W b0 l x k xv yv) : AdS w1 W.drew b0 l x k xv yv := ⟨h.bel.drew, h.ox.drew, h.oy.drew, h.ap⟩
theorem len_low (l : List En) (x : En) (k : Nat) : (lowE (l.take k) x).length ≤ l.length := Nat.le_trans (List.length_filter_le _ _) (by rw [List.length_take]; omega)
theorem len_high (l : List En) (x : En) (k : Nat) : (highE (l.take k) x).length ≤ l.length := Nat.le_trans (List.length_filter_le _ _) (by rw [List.length_take]; omega)
theorem one_ens (l : List En) : ∀ u ∈ l.flatMap En.cells, u.oneCell' = true := fun u hu => by
  obtain ⟨y, _, hy⟩ := List.mem_flatMap.1 hu
  unfold En.cells at hy
  simp at hy
  rcases hy with rfl | rfl | rfl | rfl | rfl | rfl | rfl | rfl <;> rfl
theorem cells_len (l : List En) : (l.flatMap En.cells).length = l.length * 8 := by
  induction l with
  | nil => rfl
  | cons y l ih => rw [List.flatMap_cons, List.length_append, ih, List.length_cons]; show 8 + l.length * 8 = _; omega
/-- an append to the first list -/
theorem AdS.low {w1 W W2 : World} {b0 : Nat} {l : List En} {x y : En} {k : Nat} {xv yv v' : Value} (h : AdS w1 W b0 l x k xv yv) (hk : k < l.length) (hy : l.getD k default = y) (hlt : y.no < x.no) {o : Obj}
    (hown : W2.ownsRow w1.heap.size 49 8 v' ((lowE (l.take k) x).length + 1) ((lowE (l.take k) x).flatMap En.cells ++ y.cells)) (hg : (W.alloc o).grownBy W2 xv.ownBlock) (hat : v'.ownBlock = xv.ownBlock ∨ v'.ownBlock = some (W.alloc o).heap.size) : AdS w1 W2 b0 l x (k + 1) v' yv := by
  obtain ⟨gx, gy, h1, h2, h3⟩ := h.ap
  have e1 : lowE (l.take (k + 1)) x = lowE (l.take k) x ++ [y] := by rw [takeE hk, hy]; unfold lowE; rw [List.filter_append, List.filter_cons, if_pos (by simpa using hlt)]; rfl
  have e2 : highE (l.take (k + 1)) x = highE (l.take k) x := by rw [takeE hk, hy]; unfold highE; rw [List.filter_append, List.filter_cons, if_neg (by simpa using hlt)]; simp
  refine ⟨(h.bel.alloc h.bel.size o).grown hg (by have := h.bel.size; simp; omega) (fun r e => (h.ox.lt r e).1), ?_, ?_, ?_⟩
  · rw [e1, List.length_append, List.flatMap_append]
    simpa using hown
  · rw [e2]
    exact (h.oy.alloc o).kept hg (.inr (by rw [h1, h2]; intro e; exact h3 (Option.some.inj e).symm))
  · rcases hat with hat | hat
    · exact ⟨gx, gy, hat.trans h1, h2, h3⟩
    · refine ⟨_, gy, hat, h2, ?_⟩
      have := (h.oy.lt gy h2).2
      simp; omega
/-- an append to the second list -/
theorem AdS.high {w1 W W2 : World} {b0 : Nat} {l : List En} {x y : En} {k : Nat} {xv yv v' : Value} (h : AdS w1 W b0 l x k xv yv) (hk : k < l.length) (hy : l.getD k default = y) (hlt : ¬ y.no < x.no) {o : Obj}
    (hown : W2.ownsRow w1.heap.size 49 8 v' ((highE (l.take k) x).length + 1) ((highE (l.take k) x).flatMap En.cells ++ y.cells)) (hg : (W.alloc o).grownBy W2 yv.ownBlock) (hat : v'.ownBlock = yv.ownBlock ∨ v'.ownBlock = some (W.alloc o).heap.size) : AdS w1 W2 b0 l x (k + 1) xv v' := by
  obtain ⟨gx, gy, h1, h2, h3⟩ := h.ap
  have e1 : lowE (l.take (k + 1)) x = lowE (l.take k) x := by rw [takeE hk, hy]; unfold lowE; rw [List.filter_append, List.filter_cons, if_neg (by simpa using hlt)]; simp
  have e2 : highE (l.take (k + 1)) x = highE (l.take k) x ++ [y] := by rw [takeE hk, hy]; unfold highE; rw [List.filter_append, List.filter_cons, if_pos (by simpa using hlt)]; rfl
  refine ⟨(h.bel.alloc h.bel.size o).grown hg (by have := h.bel.size; simp; omega) (fun r e => (h.oy.lt r e).1), ?_, ?_, ?_⟩
  · rw [e1]
    exact (h.ox.alloc o).kept hg (.inr (by rw [h1, h2]; intro e; exact h3 (Option.some.inj e)))
  · rw [e2, List.length_append, List.flatMap_append]
    simpa using hown
  · rcases hat with hat | hat
    · exact ⟨gx, gy, h1, hat.trans h2, h3⟩
    · refine ⟨gx, _, h1, hat, ?_⟩
      have := (h.ox.lt gx h1).2
      simp; omega
set_option maxRecDepth 100000 in
set_option maxHeartbeats 8000000 in
theorem radd_any (l : List En) (v : Value) (x : En) (w : World) (h : SlE w w.heap.size v l) (hc : chkE l = 0) (hl : l.length ≤ 23) :
    Calls Tryz.prog 17 #[v, x.val] w fun e w' => (∃ u, e = .returned (.tuple #[u, .int .i64 (addE l x)]) ∧ (addE l x = 0 → SlE w' w'.heap.size u (addL l x))) ∧ Below w.heap.size w w' := by
  obtain ⟨i0, hi, hz0, hz1, hz2⟩ := info_parts infoE
  have hck := fun (W : World) (hb : Below w.heap.size w W) => r33check_any l v W ((h.below hb).mono hb.size)
  have hvl := fun (W : World) => r33valid_any x W
  rw [hc] at hck
  have HS := Lib.hid h
  have HCK := Lib.hid hck
  obtain ⟨_, A, c, rfl, _⟩ := h
  have rX := Row.new w 49 x.cells
  have hB := below_alloc' w (.cells x.cells.toArray 49)
  obtain ⟨no, kind, a, b, fr, un, kn, gn⟩ := x
  obtain ⟨x, hx⟩ : ∃ x : En, (⟨no, kind, a, b, fr, un, kn, gn⟩ : En) = x := ⟨_, rfl⟩
  have hxv : x.val = .agg #[.int .i64 no, .int .i64 kind, .int .i64 a, .int .i64 b, .int .i64 fr, .int .i64 un, .int .i64 kn, .int .i64 gn] := by rw [← hx]; rfl
  have hxc : x.cells = [.int .i64 no, .int .i64 kind, .int .i64 a, .int .i64 b, .int .i64 fr, .int .i64 un, .int .i64 kn, .int .i64 gn] := by rw [← hx]; rfl
  have hxn : x.no = no := by rw [← hx]
  rw [hx] at rX hB hvl ⊢
  rw [hxv] at hvl ⊢
  rw [hxc] at rX hB
  clear hx hc hck
  have HXC := Lib.hid hxc
  have HXN := Lib.hid hxn
  obtain ⟨m0, m1, m2, m3, m4, m5, m6, m7⟩ := st8e rX
  cases hv : validB x with
  | false =>
    rw [hv] at hvl
    have HV := Lib.hid hvl
    have hE : addE l x = 330 := by unfold addE; rw [hv]; rfl
    rw [hE]
    clear hvl hv hE hxv hxc hxn hi hz0 hz1 hz2
    go_enter Tryz.func17, Tryz.ntmps17
    go_wp2_with (first
      | (go_at_call 16; (with_reducible refine (HCK.out _ hB).mono ?_); rintro e w1 ⟨rfl, hb⟩; replace rX := rX.below hb rX.lt; replace hB := hB.trans (hb.mono hB.size); clear hb m0 m1 m2 m3 m4 m5 m6 m7; obtain ⟨m0, m1, m2, m3, m4, m5, m6, m7⟩ := st8e rX)
      | (go_at_call 51; (with_reducible refine (HV.out _).mono ?_); rintro e w2 ⟨rfl, hb⟩; replace hB := hB.trans (hb.mono hB.size); clear hb))
    go_ret2
    exact ⟨⟨_, rfl, fun h => by cases h⟩, hB⟩
  | true =>
    rw [hv] at hvl
    have HV := Lib.hid hvl
    have HVV := Lib.hid hv
    obtain ⟨E, hE⟩ : ∃ E, addE l x = E := ⟨_, rfl⟩
    rw [hE]
    have HE := Lib.hid hE
    clear hvl hv hE hxv hxc hxn
    go_enter Tryz.func17, Tryz.ntmps17
    go_upto_region 6 with (first
      | (go_at_call 16; (with_reducible refine (HCK.out _ hB).mono ?_); rintro e w1 ⟨rfl, hb⟩; replace rX := rX.below hb rX.lt; replace hB := hB.trans (hb.mono hB.size); clear hb m0 m1 m2 m3 m4 m5 m6 m7; obtain ⟨m0, m1, m2, m3, m4, m5, m6, m7⟩ := st8e rX)
      | (go_at_call 51; (with_reducible refine (HV.out _).mono ?_); rintro e w2 ⟨rfl, hb⟩; replace rX := rX.below hb rX.lt; replace hB := hB.trans (hb.mono hB.size); clear hb m0 m1 m2 m3 m4 m5 m6 m7))
    go_wp2_with fail
    have hlx := rX.lt
    have hb1 := below_alloc' w2 (.cells #[] 49)
    have hb2 := hb1.alloc hb1.size (.cells #[] 49)
    have hox : ((w2.alloc (.cells #[] 49)).alloc (.cells #[] 49)).ownsRow w2.heap.size 49 8 (.slice (some ⟨w2.heap.size, 0, none⟩) 0 0) 0 [] := (World.ownsRow_made (base := w2.heap.size) w2 #[] 0 (Nat.le_refl _) (by unfold maxLen; omega) (by simp)).alloc _
    have hoy : ((w2.alloc (.cells #[] 49)).alloc (.cells #[] 49)).ownsRow w2.heap.size 49 8 (.slice (some ⟨w2.heap.size + 1, 0, none⟩) 0 0) 0 [] := by
      have := World.ownsRow_made (base := w2.heap.size) (e := 49) (size := 8) (w2.alloc (.cells #[] 49)) #[] 0 (by simp) (by unfold maxLen; omega) (by simp)
      rwa [World.size_alloc] at this
    have hS : AdS w2 ((w2.alloc (.cells #[] 49)).alloc (.cells #[] 49)) 0 l x 0 (.slice (some ⟨w2.heap.size, 0, none⟩) 0 0) (.slice (some ⟨w2.heap.size + 1, 0, none⟩) 0 0) := ⟨hb2, hox, hoy, w2.heap.size, w2.heap.size + 1, rfl, rfl, by omega⟩
    clear hb1 hb2 hox hoy
    go_loopg [7, 8, 9] l.length (fun gg xv yv iv wr => ∃ k : Nat, iv = .int .i64 k ∧ k + gg = l.length ∧ AdS w2 wr 0 l x k xv yv ∧ Hid (∀ y ∈ l.take k, y.no ≠ x.no))
    case atStart => exact ⟨0, rfl, by omega, hS, fun y hy => by simp at hy⟩
    case round =>
      clear hS
      obtain ⟨k, rfl, hkg, hS, HN⟩ := hrel
      obtain ⟨xo, rfl⟩ : ∃ xo : Value, xo = u7 := ⟨_, rfl⟩
      obtain ⟨yo, rfl⟩ : ∃ yo : Value, yo = u8 := ⟨_, rfl⟩
      by_cases hlt : k < l.length
      · obtain ⟨b1, off, c', hv, hbb, hE⟩ := ent_at (HS.out.below (hB.trans (hS.bel.mono hB.size))) hlt
        cases hv
        have hbr : b1 < wr.heap.size := by have := hS.bel.size; have := hB.size; omega
        have rXw := rX.below hS.bel hlx
        obtain ⟨m0, m1, m2, m3, m4, m5, m6, m7⟩ := st8e rXw
        have ex := hE k hlt
        have hmem : l.getD k default ∈ l := by rw [List.getD_eq_getElem?_getD, List.getElem?_eq_getElem hlt]; exact List.getElem_mem hlt
        obtain ⟨y, hy⟩ : ∃ y, l.getD k default = y := ⟨_, rfl⟩
        rw [hy] at ex hmem
        have EX := Lib.hid ex
        obtain ⟨d0, d1, d2, d3, d4, d5, d6, d7⟩ := ex
        have s1 : (0 : Int) ≤ k := by omega
        have s2 : (k : Int) < l.length := by omega
        have HSS := Lib.hid hS
        have HY := Lib.hid hy
        have HBW := Lib.hid (hB.trans (hS.bel.mono hB.size))
        clear hE hS rXw hy
        by_cases e1 : y.no = no
        · have z : (y.no == no) = true := by rw [e1]; exact beq_self_eq_true _
          have hr : E = 181 := by
            rw [← HE.out]
            unfold addE
            rw [HVV.out, if_pos rfl, if_pos]
            rw [List.any_eq_true]
            exact ⟨y, hmem, by rw [HXN.out, e1]; exact beq_self_eq_true _⟩
          have HR := Lib.hid hr
          clear hr e1 hmem
          go_wp2
          go_quiet (fail)
          go_wp2
          go_ret2
          exact ⟨⟨_, by rw [HR.out]; rfl, fun h => by have := HR.out; omega⟩, by first | exact HBW.out | exact Go.below_drewN HBW.out _⟩
        · have z : (y.no == no) = false := beq_eq_false_iff_ne.2 e1
          have HNE := Lib.hid (show y.no ≠ x.no by rw [HXN.out]; exact e1)
          clear hmem e1
          by_cases e2 : y.no < no
          · have z2 : decide (y.no < no) = true := decide_eq_true e2
            have HLT := Lib.hid (show y.no < x.no by rw [HXN.out]; exact e2)
            clear e2
            go_wp2
            go_quiet (fail)
            have hq := Go.below_drewN (Below.refl wr.heap.size wr) nq
            have hS2 : AdS w2 (wr.drewN nq) 0 l x k xo yo := ⟨Go.below_drewN HSS.out.bel nq, HSS.out.ox, HSS.out.oy, HSS.out.ap⟩
            have ex := EX.out.below hq hbr
            have hbr2 : b1 < (wr.drewN nq).heap.size := hbr
            have hBw2 := Go.below_drewN HBW.out nq
            clear d0 d1 d2 d3 d4 d5 d6 d7 m0 m1 m2 m3 m4 m5 m6 m7 hbr
            generalize wr.drewN nq = W4 at *
            have EX := Lib.hid ex
            have HSS := Lib.hid hS2
            have HBW := Lib.hid hBw2
            obtain ⟨d0, d1, d2, d3, d4, d5, d6, d7⟩ := ex
            obtain ⟨m0, m1, m2, m3, m4, m5, m6, m7⟩ := st8e (rX.below hS2.bel hlx)
            have hbr := hbr2
            clear hS2 hBw2 hq hbr2
            go_wp2
            go_quiet (fail)
            have hq := Go.below_drewN (Below.refl W4.heap.size W4) nq
            have hS2 : AdS w2 (W4.drewN nq) 0 l x k xo yo := ⟨Go.below_drewN HSS.out.bel nq, HSS.out.ox, HSS.out.oy, HSS.out.ap⟩
            have ex := EX.out.below hq hbr
            have hbr2 : b1 < (W4.drewN nq).heap.size := hbr
            have hBw2 := Go.below_drewN HBW.out nq
            clear d0 d1 d2 d3 d4 d5 d6 d7 m0 m1 m2 m3 m4 m5 m6 m7 hbr
            generalize W4.drewN nq = W5 at *
            have EX := Lib.hid ex
            have HSS := Lib.hid hS2
            have HBW := Lib.hid hBw2
            obtain ⟨d0, d1, d2, d3, d4, d5, d6, d7⟩ := ex
            obtain ⟨m0, m1, m2, m3, m4, m5, m6, m7⟩ := st8e (rX.below hS2.bel hlx)
            have hbr := hbr2
            clear hS2 hBw2 hq hbr2
            go_wp2_with (at_builtin; go_loud (refine wpList_append_own_at _ rfl _ _ 26 rfl w2.heap.size 49 i0 zeroE.val 8 64 Tryz.underlying26 hi hz0 hz1 hz2 rfl (by decide) _ _ _ rfl (HSS.out.ox.alloc _) ⟨W5.heap.size, 0, none⟩ 1 1 y.cells rfl rfl (cells_new W5 49 y.cells) (by simp [En.cells, Value.oneCell']) (by have := len_low l x k; unfold maxLen; omega) (by have := len_low l x k; omega) (by have := HSS.out.bel.size; simp; omega) ?_; intro v' w3 hown' hgrow _ hat))
            go_roundg (gk - 1)
            case measure => omega
            case rel => exact ⟨k + 1, by first | rfl | go_num, by omega, HSS.out.low hlt HY.out HLT.out hown' hgrow hat, by
              intro z hz
              rw [takeE hlt, HY.out] at hz
              rcases List.mem_append.1 hz with hz | hz
              · exact HN.out z hz
              · rw [List.mem_singleton] at hz; rw [hz]; exact HNE.out⟩
          · have z2 : decide (y.no < no) = false := decide_eq_false e2
            have HLT := Lib.hid (show ¬ y.no < x.no by rw [HXN.out]; exact e2)
            clear e2
            go_wp2
            go_quiet (fail)
            have hq := Go.below_drewN (Below.refl wr.heap.size wr) nq
            have hS2 : AdS w2 (wr.drewN nq) 0 l x k xo yo := ⟨Go.below_drewN HSS.out.bel nq, HSS.out.ox, HSS.out.oy, HSS.out.ap⟩
            have ex := EX.out.below hq hbr
            have hbr2 : b1 < (wr.drewN nq).heap.size := hbr
            have hBw2 := Go.below_drewN HBW.out nq
            clear d0 d1 d2 d3 d4 d5 d6 d7 m0 m1 m2 m3 m4 m5 m6 m7 hbr
            generalize wr.drewN nq = W4 at *
            have EX := Lib.hid ex
            have HSS := Lib.hid hS2
            have HBW := Lib.hid hBw2
            obtain ⟨d0, d1, d2, d3, d4, d5, d6, d7⟩ := ex
            obtain ⟨m0, m1, m2, m3, m4, m5, m6, m7⟩ := st8e (rX.below hS2.bel hlx)
            have hbr := hbr2
            clear hS2 hBw2 hq hbr2
            go_wp2
            go_quiet (fail)
            have hq := Go.below_drewN (Below.refl W4.heap.size W4) nq
            have hS2 : AdS w2 (W4.drewN nq) 0 l x k xo yo := ⟨Go.below_drewN HSS.out.bel nq, HSS.out.ox, HSS.out.oy, HSS.out.ap⟩
            have ex := EX.out.below hq hbr
            have hbr2 : b1 < (W4.drewN nq).heap.size := hbr
            have hBw2 := Go.below_drewN HBW.out nq
            clear d0 d1 d2 d3 d4 d5 d6 d7 m0 m1 m2 m3 m4 m5 m6 m7 hbr
            generalize W4.drewN nq = W5 at *
            have EX := Lib.hid ex
            have HSS := Lib.hid hS2
            have HBW := Lib.hid hBw2
            obtain ⟨d0, d1, d2, d3, d4, d5, d6, d7⟩ := ex
            obtain ⟨m0, m1, m2, m3, m4, m5, m6, m7⟩ := st8e (rX.below hS2.bel hlx)
            have hbr := hbr2
            clear hS2 hBw2 hq hbr2
            go_wp2_with (at_builtin; go_loud (refine wpList_append_own_at _ rfl _ _ 26 rfl w2.heap.size 49 i0 zeroE.val 8 64 Tryz.underlying26 hi hz0 hz1 hz2 rfl (by decide) _ _ _ rfl (HSS.out.oy.alloc _) ⟨W5.heap.size, 0, none⟩ 1 1 y.cells rfl rfl (cells_new W5 49 y.cells) (by simp [En.cells, Value.oneCell']) (by have := len_high l x k; unfold maxLen; omega) (by have := len_high l x k; omega) (by have := HSS.out.bel.size; simp; omega) ?_; intro v' w3 hown' hgrow _ hat))
            go_roundg (gk - 1)
            case measure => omega
            case rel => exact ⟨k + 1, by first | rfl | go_num, by omega, HSS.out.high hlt HY.out (by have := HLT.out; omega) hown' hgrow hat, by
              intro z hz
              rw [takeE hlt, HY.out] at hz
              rcases List.mem_append.1 hz with hz | hz
              · exact HN.out z hz
              · rw [List.mem_singleton] at hz; rw [hz]; exact HNE.out⟩
      · obtain rfl : k = l.length := by omega
        have hr : E = 0 := by
          rw [← HE.out]
          unfold addE
          rw [HVV.out, if_pos rfl, if_neg]
          intro h
          rw [List.any_eq_true] at h
          obtain ⟨y, hy, hyn⟩ := h
          refine HN.out y (by rw [List.take_length]; exact hy) ?_
          simpa using hyn
        have HR := Lib.hid hr
        obtain ⟨gx, gy, h1, h2, h3⟩ := hS.ap
        have hbel := hS.bel
        have hox := hS.ox
        have hoy := hS.oy
        have b1 := len_low l x l.length
        have b2 := len_high l x l.length
        rw [List.take_length] at hox hoy b1 b2
        clear hS
        obtain ⟨capy, rfl⟩ := own_slice hoy h2
        have z : ((l.length : Int) == 1024) = false := beq_eq_false_iff_ne.2 (by omega)
        obtain ⟨m0, m1, m2, m3, m4, m5, m6, m7⟩ := st8e (rX.below hbel hlx)
        have HOX := Lib.hid hox
        have HOY := Lib.hid hoy
        have H1 := Lib.hid h1
        have H3 := Lib.hid h3
        have HBEL := Lib.hid hbel
        clear hox hoy h1 h2 h3 hbel hr
        go_wp2_with (first
          | (at_builtin; (refine wpList_append_own_at _ rfl _ _ 26 rfl w2.heap.size 49 i0 zeroE.val 8 64 Tryz.underlying26 hi hz0 hz1 hz2 rfl (by decide) _ _ _ rfl (HOX.out.alloc _) ⟨wr.heap.size, 0, none⟩ 1 1 [.int .i64 no, .int .i64 kind, .int .i64 a, .int .i64 b, .int .i64 fr, .int .i64 un, .int .i64 kn, .int .i64 gn] rfl rfl (cells_new wr 49 [.int .i64 no, .int .i64 kind, .int .i64 a, .int .i64 b, .int .i64 fr, .int .i64 un, .int .i64 kn, .int .i64 gn]) (by simp [Value.oneCell']) (by unfold maxLen; omega) (by omega) (by have := HBEL.out.size; simp; omega) ?_; intro v' w3 hown' hgrow _ hat; replace hgrow : World.grownBy _ w3 xo.ownBlock := hgrow; have hy3 := (HOY.out.alloc _).kept hgrow (.inr (by rw [H1.out]; intro e; exact H3.out (Option.some.inj e).symm))))
          | (at_builtin; (refine wpList_append_own_at _ rfl _ _ 26 rfl w2.heap.size 49 i0 zeroE.val 8 64 Tryz.underlying26 hi hz0 hz1 hz2 rfl (by decide) _ _ _ rfl hown' ⟨gy, 0, none⟩ (highE l x).length capy ((highE l x).flatMap En.cells) rfl (cells_len _) (World.ownsRow.cells hy3 rfl) (one_ens _) (by unfold maxLen; omega) (by omega) (by have := HBEL.out.size; have := hgrow.size; simp at this; omega) ?_; intro v'' w4 hown'' hgrow2 _ hat2)))
        go_ret2
        refine ⟨⟨v'', by rw [HR.out]; rfl, fun _ => ?_⟩, hB.trans (Below.mono (((HBEL.out.alloc HBEL.out.size _).grown hgrow (by have := HBEL.out.size; simp; omega) (fun r e => (HOX.out.lt r e).1)).grown hgrow2 (by have := HBEL.out.size; have := hgrow.size; simp at this; omega) (fun r e => (hown'.lt r e).1)) hB.size)⟩
        have e : (addL l x).flatMap En.cells = (lowE l x).flatMap En.cells ++ [.int .i64 no, .int .i64 kind, .int .i64 a, .int .i64 b, .int .i64 fr, .int .i64 un, .int .i64 kn, .int .i64 gn] ++ (highE l x).flatMap En.cells := by
          show (lowE l x ++ [x] ++ highE l x).flatMap En.cells = _
          rw [List.flatMap_append, List.flatMap_append, List.flatMap_singleton, HXC.out]
        rw [← e] at hown''
        exact own_slG hown'' (fun _ => rfl) (by show _ = (lowE l x ++ [x] ++ highE l x).length; rw [List.length_append, List.length_append, List.length_singleton]) (by rw [addL_len]; omega)
end Go.Proofs.YthckledagggoiaaGreatDoor
