import Derived.Test.YthckledagggoiaaGreatDoorZMt
import Derived.Deep.LoopGhost
import Derived.WalkLawsBesides
import Derived.Test.YthckledagggoiaaGreatDoorZAs2
set_option linter.unusedSimpArgs false
set_option linter.unusedVariables false
namespace Go.Proofs.YthckledagggoiaaGreatDoor
open Go.RowKit Go.Shelf Fk Sha
/-! forward.must, forward.check. -/
abbrev stopV (E : Int) : Value := .iface 87 (.agg #[.int .i64 E])
set_option maxHeartbeats 400000 in
theorem must_ok (w : World) : Calls Tryz.prog 37 #[.int .i64 0] w fun e w' => e = .returned (.tuple #[]) ∧ w' = w := by
  go_enter Tryz.func37, Tryz.ntmps37
  go_wp2
  go_end0
  exact ⟨rfl, rfl⟩
set_option maxHeartbeats 400000 in
theorem must_bad (E : Int) (h : E ≠ 0) (w : World) : Calls Tryz.prog 37 #[.int .i64 E] w fun e w' => e = .panicked [{ v := stopV E, recovered := false }] ∧ w' = w := by
  have z : (E != 0) = true := bne_iff_ne.2 h
  clear h
  go_enter Tryz.func37, Tryz.ntmps37
  go_wp2
  exact ⟨rfl, rfl, rfl⟩
set_option maxHeartbeats 400000 in
theorem nokey_any (n : Int) (w : World) : Calls Tryz.prog 90 #[.int .i64 n] w fun e w' => e = .returned (.bool (!vld n)) ∧ Below w.heap.size w w' := by
  have hm := fun W => valid_any n W
  obtain ⟨b, hb⟩ : ∃ b, vld n = b := ⟨_, rfl⟩
  rw [hb] at hm ⊢
  have HM := Lib.hid hm
  clear hm hb
  cases b
  all_goals
    go_enter Tryz.func90, Tryz.ntmps90
    go_wp2_with (go_at_call 59; (with_reducible refine (HM.out _).mono ?_); rintro e w1 ⟨rfl, rfl⟩)
    go_ret
    exact ⟨rfl, Below.refl _ _⟩

set_option maxRecDepth 100000 in
set_option maxHeartbeats 2000000 in
theorem index_key (l : List Int) (v : Value) (w : World) (h : SlI w w.heap.size v l) :
    Calls Tryz.prog 137 #[v, .func (Fn.func 90) #[] #[]] w fun e w' => ∃ k : Int, e = .returned (.int .i64 k) ∧ (0 ≤ k ↔ l.all vld = false) ∧ Below w.heap.size w w' := by
  have HS := Lib.hid h
  obtain ⟨hlen, A, c, rfl, _⟩ := h
  go_enter Tryz.func137, Tryz.ntmps137
  go_wp2_with fail
  go_loopg [8] l.length (fun g iv wr => Below w.heap.size w wr ∧ ∃ k : Nat, iv = .int .i64 k ∧ k + g = l.length ∧ Hid (∀ i, i < k → vld (l.getD i default) = true))
  case atStart => exact ⟨Below.refl _ _, 0, rfl, by omega, fun i hi => absurd hi (by omega)⟩
  case round =>
    obtain ⟨hBr, k, rfl, hkg, hall⟩ := hrel
    have hzr := hBr.size
    by_cases hlt : k < l.length
    · obtain ⟨_, A', c', hv, hE⟩ := HS.out.below hBr
      obtain ⟨b, o, rfl, hbb, hE⟩ := hE (by omega)
      cases hv
      have d0 := hE.int hlt
      clear hE
      have hbad : vld (l.getD k default) = false → l.all vld = false := fun e => by
        rw [List.all_eq_false]
        refine ⟨l.getD k default, ?_, by rw [e]; decide⟩
        rw [List.getD_eq_getElem?_getD, List.getElem?_eq_getElem hlt]
        exact List.getElem_mem _
      obtain ⟨s, hs⟩ : ∃ s, l.getD k default = s := ⟨_, rfl⟩
      rw [hs] at d0 hbad
      have hm := fun w => nokey_any s w
      have s1 : (0 : Int) ≤ k := by omega
      have s2 : (k : Int) < l.length := by omega
      cases hok : vld s with
      | true =>
        rw [hok] at hm
        have HA : Hid (∀ i, i < k + 1 → vld (l.getD i default) = true) := fun i hi => by
          by_cases e : i = k
          · rw [e, hs]; exact hok
          · exact hall.out i (by omega)
        have HM := Lib.hid hm
        clear hm hs hok hall hbad
        go_wp2_with (go_at_call 90; (with_reducible refine (HM.out _).mono ?_); rintro e w1 ⟨rfl, hb⟩)
        go_roundg (gk - 1)
        case measure => omega
        case rel => exact ⟨hBr.trans (hb.mono hzr), k + 1, by first | rfl | go_num, by omega, HA⟩
      | false =>
        rw [hok] at hm
        have hf := hbad hok
        have HM := Lib.hid hm
        have HF := Lib.hid hf
        clear hm hs hok hall hbad hf
        go_wp2_with (go_at_call 90; (with_reducible refine (HM.out _).mono ?_); rintro e w1 ⟨rfl, hb⟩)
        go_ret
        exact ⟨k, rfl, ⟨fun _ => HF.out, fun _ => by omega⟩, hBr.trans (hb.mono hzr)⟩
    · obtain rfl : k = l.length := by omega
      go_wp2_with fail
      go_ret
      refine ⟨-1, rfl, ⟨fun h => absurd h (by omega), fun h => ?_⟩, hBr⟩
      exfalso
      rw [List.all_eq_false] at h
      obtain ⟨x, hx, hx2⟩ := h
      obtain ⟨i, hi, rfl⟩ := List.getElem_of_mem hx
      have := hall.out i hi
      rw [List.getD_eq_getElem?_getD, List.getElem?_eq_getElem hi] at this
      exact hx2 this
set_option maxRecDepth 100000 in
set_option maxHeartbeats 1000000 in
theorem contains_key (l : List Int) (v : Value) (w : World) (h : SlI w w.heap.size v l) :
    Calls Tryz.prog 89 #[v, .func (Fn.func 90) #[] #[]] w fun e w' => e = .returned (.bool (!(l.all vld))) ∧ Below w.heap.size w w' := by
  have hm := index_key l v w h
  obtain ⟨b, hb⟩ : ∃ b, l.all vld = b := ⟨_, rfl⟩
  rw [hb] at hm ⊢
  have HM := Lib.hid hm
  clear hm hb h
  cases b
  all_goals
    go_enter Tryz.func89, Tryz.ntmps89
    go_wp2_with (go_at_call 137; (with_reducible refine HM.out.mono ?_); rintro e w1 ⟨k, rfl, hk, hb⟩; first | (have hd : decide ((0 : Int) ≤ k) = true := decide_eq_true (hk.2 rfl)) | (have hd : decide ((0 : Int) ≤ k) = false := decide_eq_false (fun h => by have := hk.1 h; cases this)))
    go_ret
    exact ⟨by first | rfl | (rw [hd]; rfl), hb⟩

/-! the five conditions -/
set_option maxHeartbeats 400000 in
theorem chk1_any (A : Option Addr) (nk ck : Nat) (n : Int) (A2 : Option Addr) (nl cl : Nat) (g g2 : Nat) (w : World) (h1 : w.cell? ⟨g, 0, none⟩ = some (.slice A nk ck)) (h2 : w.cell? ⟨g2, 1, none⟩ = some (.slice A2 nl cl)) :
    Calls Tryz.prog 87 #[.pointer (some ⟨g, 0, none⟩), .pointer (some ⟨g2, 0, none⟩)] w fun e w' => e = .returned (.bool (decide ((nk : Int) = nl))) ∧ Below w.heap.size w w' := by
  go_enter Tryz.func87, Tryz.ntmps87
  go_wp2
  go_ret
  exact ⟨by first | rfl | simp [go_sem, beq_iff_eq], Below.refl _ _⟩
set_option maxHeartbeats 400000 in
theorem chk2_any (A : Option Addr) (nk ck : Nat) (l : List Int) (g : Nat) (w : World) (h1 : w.cell? ⟨g, 0, none⟩ = some (.slice A nk ck)) (h : SlI w w.heap.size (.slice A nk ck) l) :
    Calls Tryz.prog 88 #[.pointer (some ⟨g, 0, none⟩)] w fun e w' => e = .returned (.bool (l.all vld)) ∧ Below w.heap.size w w' := by
  have hm := contains_key l (.slice A nk ck) w h
  obtain ⟨b, hb⟩ : ∃ b, l.all vld = b := ⟨_, rfl⟩
  rw [hb] at hm ⊢
  have HM := Lib.hid hm
  clear hm hb h
  cases b
  all_goals
    go_enter Tryz.func88, Tryz.ntmps88
    go_wp2_with (go_at_call 89; (with_reducible refine HM.out.mono ?_); rintro e w1 ⟨rfl, hb⟩)
    go_ret
    exact ⟨rfl, hb⟩

set_option maxHeartbeats 400000 in
theorem chk3_any (s : Int) (g : Nat) (w : World) (h1 : w.cell? ⟨g, 0, none⟩ = some (.int .i64 s)) :
    Calls Tryz.prog 91 #[.pointer (some ⟨g, 0, none⟩)] w fun e w' => e = .returned (.bool (secK s)) ∧ Below w.heap.size w w' := by
  unfold secK
  by_cases q1 : 1 ≤ s
  · rw [decide_eq_true q1, Bool.true_and]
    by_cases q2 : s < 1073741789
    · rw [decide_eq_true q2]
      go_enter Tryz.func91, Tryz.ntmps91
      go_wp2
      go_ret
      exact ⟨rfl, Below.refl _ _⟩
    · rw [decide_eq_false q2]
      go_enter Tryz.func91, Tryz.ntmps91
      go_wp2
      go_ret
      exact ⟨rfl, Below.refl _ _⟩
  · rw [decide_eq_false q1, Bool.false_and]
    go_enter Tryz.func91, Tryz.ntmps91
    go_wp2
    go_ret
    exact ⟨rfl, Below.refl _ _⟩
set_option maxHeartbeats 400000 in
theorem chk4_any (s : Int) (g : Nat) (w : World) (h1 : w.cell? ⟨g, 0, none⟩ = some (.int .i64 s)) :
    Calls Tryz.prog 92 #[.pointer (some ⟨g, 0, none⟩)] w fun e w' => e = .returned (.bool (offB s)) ∧ Below w.heap.size w w' := by
  unfold offB
  by_cases q1 : 0 ≤ s
  · rw [decide_eq_true q1, Bool.true_and]
    by_cases q2 : s < 24
    · rw [decide_eq_true q2]
      go_enter Tryz.func92, Tryz.ntmps92
      go_wp2
      go_ret
      exact ⟨rfl, Below.refl _ _⟩
    · rw [decide_eq_false q2]
      go_enter Tryz.func92, Tryz.ntmps92
      go_wp2
      go_ret
      exact ⟨rfl, Below.refl _ _⟩
  · rw [decide_eq_false q1, Bool.false_and]
    go_enter Tryz.func92, Tryz.ntmps92
    go_wp2
    go_ret
    exact ⟨rfl, Below.refl _ _⟩
set_option maxHeartbeats 400000 in
theorem chk5_any (s : Int) (g : Nat) (w : World) (h1 : w.cell? ⟨g, 0, none⟩ = some (.int .i64 s)) :
    Calls Tryz.prog 93 #[.pointer (some ⟨g, 0, none⟩)] w fun e w' => e = .returned (.bool (manyP s)) ∧ Below w.heap.size w w' := by
  unfold manyP
  by_cases q1 : 0 ≤ s
  · rw [decide_eq_true q1, Bool.true_and]
    by_cases q2 : s ≤ 1024
    · rw [decide_eq_true q2]
      go_enter Tryz.func93, Tryz.ntmps93
      go_wp2
      go_ret
      exact ⟨rfl, Below.refl _ _⟩
    · rw [decide_eq_false q2]
      go_enter Tryz.func93, Tryz.ntmps93
      go_wp2
      go_ret
      exact ⟨rfl, Below.refl _ _⟩
  · rw [decide_eq_false q1, Bool.false_and]
    go_enter Tryz.func93, Tryz.ntmps93
    go_wp2
    go_ret
    exact ⟨rfl, Below.refl _ _⟩
def fchkE (nk nl : Nat) (kb : Bool) (s p o : Int) : Int := if decide ((nk : Int) = nl) then (if kb then (if secK s then (if offB o then (if manyP p then 0 else 1) else 1) else 110) else 90) else 1
abbrev chkRow (g : Nat) : List Value := [.func (Fn.func 87) #[] #[.pointer (some ⟨g + 1, 0, none⟩), .pointer (some ⟨g, 0, none⟩)], .int .i64 1, .func (Fn.func 88) #[] #[.pointer (some ⟨g + 1, 0, none⟩)], .int .i64 90,
  .func (Fn.func 91) #[] #[.pointer (some ⟨g + 2, 0, none⟩)], .int .i64 110, .func (Fn.func 92) #[] #[.pointer (some ⟨g + 4, 0, none⟩)], .int .i64 1, .func (Fn.func 93) #[] #[.pointer (some ⟨g + 3, 0, none⟩)], .int .i64 1]
theorem st10 {w : World} {g : Nat} {t : TypeId} {a0 a1 a2 a3 a4 a5 a6 a7 a8 a9 : Value} (h : Row w g t [a0, a1, a2, a3, a4, a5, a6, a7, a8, a9]) : w.cell? ⟨g, 0, none⟩ = some a0 ∧ w.cell? ⟨g, 1, none⟩ = some a1 ∧ w.cell? ⟨g, 2, none⟩ = some a2 ∧ w.cell? ⟨g, 3, none⟩ = some a3 ∧
    w.cell? ⟨g, 4, none⟩ = some a4 ∧ w.cell? ⟨g, 5, none⟩ = some a5 ∧ w.cell? ⟨g, 6, none⟩ = some a6 ∧ w.cell? ⟨g, 7, none⟩ = some a7 ∧ w.cell? ⟨g, 8, none⟩ = some a8 ∧ w.cell? ⟨g, 9, none⟩ = some a9 := ⟨h.cell 0, h.cell 1, h.cell 2, h.cell 3, h.cell 4, h.cell 5, h.cell 6, h.cell 7, h.cell 8, h.cell 9⟩
/-- the blocks that check makes -/
def ChkS (w W : World) (n : Int) (v k : Value) (s p o : Int) : Prop :=
  Below w.heap.size w W ∧ Row W w.heap.size 24 [.int .i64 n, v] ∧ Row W (w.heap.size + 1) 25 [k] ∧ Row W (w.heap.size + 2) 3 [.int .i64 s] ∧ Row W (w.heap.size + 3) 3 [.int .i64 p] ∧ Row W (w.heap.size + 4) 3 [.int .i64 o] ∧
    Row W (w.heap.size + 5) 143 (chkRow w.heap.size)
theorem ChkS.below {w W W' : World} {n : Int} {v k : Value} {s p o : Int} (h : ChkS w W n v k s p o) (hb : Below W.heap.size W W') : ChkS w W' n v k s p o :=
  ⟨h.1.trans (hb.mono h.1.size), h.2.1.below hb h.2.1.lt, h.2.2.1.below hb h.2.2.1.lt, h.2.2.2.1.below hb h.2.2.2.1.lt, h.2.2.2.2.1.below hb h.2.2.2.2.1.lt, h.2.2.2.2.2.1.below hb h.2.2.2.2.2.1.lt, h.2.2.2.2.2.2.below hb h.2.2.2.2.2.2.lt⟩

theorem cell_b {w W : World} {g : Nat} {t : TypeId} {vs : List Value} {k : Nat} {v : Value} (h : Row w g t vs) (hv : vs[k]? = some v) (o : Obj) : (w.alloc o).cell? ⟨g, k, none⟩ = some v := by rw [(h.alloc o).cell]; exact hv
set_option maxRecDepth 100000 in
set_option maxHeartbeats 4000000 in
theorem check_main (n : Int) (A2 : Option Addr) (nl cl : Nat) (A : Option Addr) (nk ck : Nat) (keys : List Int) (s p o : Int) (w : World) (h : SlI w w.heap.size (.slice A nk ck) keys) (E : Int) (hE : fchkE nk nl (keys.all vld) s p o = E) :
    Calls Tryz.prog 39 #[.agg #[.int .i64 n, .slice A2 nl cl], .slice A nk ck, .int .i64 s, .int .i64 p, .int .i64 o] w fun e w' => (E = 0 ∧ e = .returned (.tuple #[]) ∨ E ≠ 0 ∧ e = .panicked [{ v := stopV E, recovered := false }]) ∧ Below w.heap.size w w' := by
  have k1 := fun (W : World) (h1 : W.cell? ⟨w.heap.size + 1, 0, none⟩ = some (.slice A nk ck)) (h2 : W.cell? ⟨w.heap.size, 1, none⟩ = some (.slice A2 nl cl)) => chk1_any A nk ck n A2 nl cl (w.heap.size + 1) w.heap.size W h1 h2
  have k2 := fun (W : World) (hb : Below w.heap.size w W) (h1 : W.cell? ⟨w.heap.size + 1, 0, none⟩ = some (.slice A nk ck)) => chk2_any A nk ck keys (w.heap.size + 1) W h1 ((h.below hb).mono hb.size)
  have k3 := fun (W : World) (h1 : W.cell? ⟨w.heap.size + 2, 0, none⟩ = some (.int .i64 s)) => chk3_any s (w.heap.size + 2) W h1
  have k4 := fun (W : World) (h1 : W.cell? ⟨w.heap.size + 4, 0, none⟩ = some (.int .i64 o)) => chk4_any o (w.heap.size + 4) W h1
  have k5 := fun (W : World) (h1 : W.cell? ⟨w.heap.size + 3, 0, none⟩ = some (.int .i64 p)) => chk5_any p (w.heap.size + 3) W h1
  have m1 := fun W => must_bad 1 (by decide) W
  have m2 := fun W => must_bad 90 (by decide) W
  have m3 := fun W => must_bad 110 (by decide) W
  unfold fchkE at hE
  obtain ⟨b1, e1⟩ : ∃ b, decide ((nk : Int) = nl) = b := ⟨_, rfl⟩
  obtain ⟨b2, e2⟩ : ∃ b, keys.all vld = b := ⟨_, rfl⟩
  obtain ⟨b3, e3⟩ : ∃ b, secK s = b := ⟨_, rfl⟩
  obtain ⟨b4, e4⟩ : ∃ b, offB o = b := ⟨_, rfl⟩
  obtain ⟨b5, e5⟩ : ∃ b, manyP p = b := ⟨_, rfl⟩
  rw [e1, e2, e3, e4, e5] at hE
  rw [e1] at k1
  rw [e2] at k2
  rw [e3] at k3
  rw [e4] at k4
  rw [e5] at k5
  have HE := Lib.hid hE
  have K1 := Lib.hid k1
  have K2 := Lib.hid k2
  have K3 := Lib.hid k3
  have K4 := Lib.hid k4
  have K5 := Lib.hid k5
  have M1 := Lib.hid m1
  have M2 := Lib.hid m2
  have M3 := Lib.hid m3
  clear k1 k2 k3 k4 k5 m1 m2 m3 hE e1 e2 e3 e4 e5 h
  have z0 := Row.new w 24 [.int .i64 n, .slice A2 nl cl]
  have B0 := below_alloc' w (.cells #[.int .i64 n, .slice A2 nl cl] 24)
  obtain ⟨W0, hW0⟩ : ∃ W, w.alloc (.cells #[.int .i64 n, .slice A2 nl cl] 24) = W := ⟨_, rfl⟩
  have s0 : W0.heap.size = w.heap.size + 1 := by rw [← hW0]; simp
  have hr : ChkS w (((((((w.alloc (.cells #[.int .i64 n, .slice A2 nl cl] 24)).alloc (.cells #[.slice A nk ck] 25)).alloc (.cells #[.int .i64 s] 3)).alloc (.cells #[.int .i64 p] 3)).alloc (.cells #[.int .i64 o] 3)).alloc (.cells (chkRow w.heap.size).toArray 143))) n (.slice A2 nl cl) (.slice A nk ck) s p o := by
    have a0 := Row.new w 24 [.int .i64 n, .slice A2 nl cl]
    have B0 := below_alloc' w (.cells #[.int .i64 n, .slice A2 nl cl] 24)
    have s0 : (w.alloc (.cells #[.int .i64 n, .slice A2 nl cl] 24)).heap.size = w.heap.size + 1 := by simp
    generalize w.alloc (.cells #[.int .i64 n, .slice A2 nl cl] 24) = W0 at *
    have a1 := Row.new W0 25 [.slice A nk ck]
    have a0 := a0.alloc (.cells #[.slice A nk ck] 25)
    have B1 := B0.alloc B0.size (.cells #[.slice A nk ck] 25)
    have s1 : (W0.alloc (.cells #[.slice A nk ck] 25)).heap.size = w.heap.size + 2 := by simp [s0]
    rw [s0] at a1
    generalize W0.alloc (.cells #[.slice A nk ck] 25) = W1 at *
    have a2 := Row.new W1 3 [.int .i64 s]
    have a0 := a0.alloc (.cells #[.int .i64 s] 3)
    have a1 := a1.alloc (.cells #[.int .i64 s] 3)
    have B2 := B1.alloc B1.size (.cells #[.int .i64 s] 3)
    have s2 : (W1.alloc (.cells #[.int .i64 s] 3)).heap.size = w.heap.size + 3 := by simp [s1]
    rw [s1] at a2
    generalize W1.alloc (.cells #[.int .i64 s] 3) = W2 at *
    have a3 := Row.new W2 3 [.int .i64 p]
    have a0 := a0.alloc (.cells #[.int .i64 p] 3)
    have a1 := a1.alloc (.cells #[.int .i64 p] 3)
    have a2 := a2.alloc (.cells #[.int .i64 p] 3)
    have B3 := B2.alloc B2.size (.cells #[.int .i64 p] 3)
    have s3 : (W2.alloc (.cells #[.int .i64 p] 3)).heap.size = w.heap.size + 4 := by simp [s2]
    rw [s2] at a3
    generalize W2.alloc (.cells #[.int .i64 p] 3) = W3 at *
    have a4 := Row.new W3 3 [.int .i64 o]
    have a0 := a0.alloc (.cells #[.int .i64 o] 3)
    have a1 := a1.alloc (.cells #[.int .i64 o] 3)
    have a2 := a2.alloc (.cells #[.int .i64 o] 3)
    have a3 := a3.alloc (.cells #[.int .i64 o] 3)
    have B4 := B3.alloc B3.size (.cells #[.int .i64 o] 3)
    have s4 : (W3.alloc (.cells #[.int .i64 o] 3)).heap.size = w.heap.size + 5 := by simp [s3]
    rw [s3] at a4
    generalize W3.alloc (.cells #[.int .i64 o] 3) = W4 at *
    have a5 := Row.new W4 143 (chkRow w.heap.size)
    rw [s4] at a5
    exact ⟨B4.alloc B4.size _, a0.alloc _, a1.alloc _, a2.alloc _, a3.alloc _, a4.alloc _, a5⟩
  clear z0 B0 hW0 s0
  go_enter Tryz.func39, Tryz.ntmps39
  go_wp2_with fail
  go_loopg [24] 5 (fun gg iv wr => ∃ k : Nat, iv = .int .i64 k ∧ k + gg = 5 ∧ ChkS w wr n (.slice A2 nl cl) (.slice A nk ck) s p o ∧
    (0 < k → b1 = true) ∧ (1 < k → b2 = true) ∧ (2 < k → b3 = true) ∧ (3 < k → b4 = true) ∧ (4 < k → b5 = true))
  case atStart => exact ⟨0, rfl, by omega, hr, by omega, by omega, by omega, by omega, by omega⟩
  case round =>
    clear hr
    obtain ⟨k, rfl, hkg, hCS, t1, t2, t3, t4, t5⟩ := hrel
    obtain ⟨hBr, r0, r1, r2, r3, r4, r5⟩ := id hCS
    obtain ⟨c0, c1, c2, c3, c4, c5, c6, c7, c8, c9⟩ := st10 r5
    have hzz := r5.lt
    have G := fun (x y : Value) => hCS.below (below_alloc' wr (.cells #[x, y] 143))
    rcases (show k = 0 ∨ k = 1 ∨ k = 2 ∨ k = 3 ∨ k = 4 ∨ k = 5 by omega) with rfl | rfl | rfl | rfl | rfl | rfl
    · clear t1 t2 t3 t4 t5 c2 c3 c4 c5 c6 c7 c8 c9
      cases b1 with
      | false =>
        go_wp2_with (first | (go_at_call 87; (with_reducible refine (K1.out _ (cell_b (W := w) r1 rfl _) (cell_b (W := w) r0 rfl _)).mono ?_); rintro e w1 ⟨rfl, hb⟩; have ce : w1.cell? ⟨wr.heap.size, 1, none⟩ = some (.int .i64 1) := (hb.cell (p := ⟨wr.heap.size, 1, none⟩) (by simp)).trans ((Row.new wr 143 [(chkRow w.heap.size).getD 0 undef, .int .i64 1]).cell 1)) | (go_at_call 37; (with_reducible refine (M1.out _).mono ?_); rintro e w2 ⟨rfl, rfl⟩))
        have hBa := hBr.alloc hBr.size (.cells #[(chkRow w.heap.size).getD 0 undef, (chkRow w.heap.size).getD 1 undef] 143)
        have := HE.out
        subst this
        refine ⟨rfl, .inr ⟨by simp, by simp⟩, hBa.trans (hb.mono hBa.size)⟩
      | true =>
        go_wp2_with (go_at_call 87; (with_reducible refine (K1.out _ (cell_b (W := w) r1 rfl _) (cell_b (W := w) r0 rfl _)).mono ?_); rintro e w1 ⟨rfl, hb⟩)
        go_roundg (gk - 1)
        case measure => omega
        case rel => exact ⟨1, by first | rfl | go_num, by omega, (G ((chkRow w.heap.size).getD 0 undef) ((chkRow w.heap.size).getD 1 undef)).below hb, by simp, by omega, by omega, by omega, by omega⟩
    · have q1 := t1 (by omega)
      subst q1
      clear t1 t2 t3 t4 t5 c0 c1 c4 c5 c6 c7 c8 c9
      cases b2 with
      | false =>
        go_wp2_with (first | (go_at_call 88; (with_reducible refine (K2.out _ (hBr.alloc hBr.size _) (cell_b (W := w) r1 rfl _)).mono ?_); rintro e w1 ⟨rfl, hb⟩; have ce : w1.cell? ⟨wr.heap.size, 1, none⟩ = some (.int .i64 90) := (hb.cell (p := ⟨wr.heap.size, 1, none⟩) (by simp)).trans ((Row.new wr 143 [(chkRow w.heap.size).getD 2 undef, .int .i64 90]).cell 1)) | (go_at_call 37; (with_reducible refine (M2.out _).mono ?_); rintro e w2 ⟨rfl, rfl⟩))
        have hBa := hBr.alloc hBr.size (.cells #[(chkRow w.heap.size).getD 2 undef, (chkRow w.heap.size).getD 3 undef] 143)
        have := HE.out
        subst this
        refine ⟨rfl, .inr ⟨by simp, by simp⟩, hBa.trans (hb.mono hBa.size)⟩
      | true =>
        go_wp2_with (go_at_call 88; (with_reducible refine (K2.out _ (hBr.alloc hBr.size _) (cell_b (W := w) r1 rfl _)).mono ?_); rintro e w1 ⟨rfl, hb⟩)
        go_roundg (gk - 1)
        case measure => omega
        case rel => exact ⟨2, by first | rfl | go_num, by omega, (G ((chkRow w.heap.size).getD 2 undef) ((chkRow w.heap.size).getD 3 undef)).below hb, by simp, by simp, by omega, by omega, by omega⟩
    · have q1 := t1 (by omega)
      have q2 := t2 (by omega)
      subst q1 q2
      clear t1 t2 t3 t4 t5 c0 c1 c2 c3 c6 c7 c8 c9
      cases b3 with
      | false =>
        go_wp2_with (first | (go_at_call 91; (with_reducible refine (K3.out _ (cell_b (W := w) r2 rfl _)).mono ?_); rintro e w1 ⟨rfl, hb⟩; have ce : w1.cell? ⟨wr.heap.size, 1, none⟩ = some (.int .i64 110) := (hb.cell (p := ⟨wr.heap.size, 1, none⟩) (by simp)).trans ((Row.new wr 143 [(chkRow w.heap.size).getD 4 undef, .int .i64 110]).cell 1)) | (go_at_call 37; (with_reducible refine (M3.out _).mono ?_); rintro e w2 ⟨rfl, rfl⟩))
        have hBa := hBr.alloc hBr.size (.cells #[(chkRow w.heap.size).getD 4 undef, (chkRow w.heap.size).getD 5 undef] 143)
        have := HE.out
        subst this
        refine ⟨rfl, .inr ⟨by simp, by simp⟩, hBa.trans (hb.mono hBa.size)⟩
      | true =>
        go_wp2_with (go_at_call 91; (with_reducible refine (K3.out _ (cell_b (W := w) r2 rfl _)).mono ?_); rintro e w1 ⟨rfl, hb⟩)
        go_roundg (gk - 1)
        case measure => omega
        case rel => exact ⟨3, by first | rfl | go_num, by omega, (G ((chkRow w.heap.size).getD 4 undef) ((chkRow w.heap.size).getD 5 undef)).below hb, by simp, by simp, by simp, by omega, by omega⟩
    · have q1 := t1 (by omega)
      have q2 := t2 (by omega)
      have q3 := t3 (by omega)
      subst q1 q2 q3
      clear t1 t2 t3 t4 t5 c0 c1 c2 c3 c4 c5 c8 c9
      cases b4 with
      | false =>
        go_wp2_with (first | (go_at_call 92; (with_reducible refine (K4.out _ (cell_b (W := w) r4 rfl _)).mono ?_); rintro e w1 ⟨rfl, hb⟩; have ce : w1.cell? ⟨wr.heap.size, 1, none⟩ = some (.int .i64 1) := (hb.cell (p := ⟨wr.heap.size, 1, none⟩) (by simp)).trans ((Row.new wr 143 [(chkRow w.heap.size).getD 6 undef, .int .i64 1]).cell 1)) | (go_at_call 37; (with_reducible refine (M1.out _).mono ?_); rintro e w2 ⟨rfl, rfl⟩))
        have hBa := hBr.alloc hBr.size (.cells #[(chkRow w.heap.size).getD 6 undef, (chkRow w.heap.size).getD 7 undef] 143)
        have := HE.out
        subst this
        refine ⟨rfl, .inr ⟨by simp, by simp⟩, hBa.trans (hb.mono hBa.size)⟩
      | true =>
        go_wp2_with (go_at_call 92; (with_reducible refine (K4.out _ (cell_b (W := w) r4 rfl _)).mono ?_); rintro e w1 ⟨rfl, hb⟩)
        go_roundg (gk - 1)
        case measure => omega
        case rel => exact ⟨4, by first | rfl | go_num, by omega, (G ((chkRow w.heap.size).getD 6 undef) ((chkRow w.heap.size).getD 7 undef)).below hb, by simp, by simp, by simp, by simp, by omega⟩
    · have q1 := t1 (by omega)
      have q2 := t2 (by omega)
      have q3 := t3 (by omega)
      have q4 := t4 (by omega)
      subst q1 q2 q3 q4
      clear t1 t2 t3 t4 t5 c0 c1 c2 c3 c4 c5 c6 c7
      cases b5 with
      | false =>
        go_wp2_with (first | (go_at_call 93; (with_reducible refine (K5.out _ (cell_b (W := w) r3 rfl _)).mono ?_); rintro e w1 ⟨rfl, hb⟩; have ce : w1.cell? ⟨wr.heap.size, 1, none⟩ = some (.int .i64 1) := (hb.cell (p := ⟨wr.heap.size, 1, none⟩) (by simp)).trans ((Row.new wr 143 [(chkRow w.heap.size).getD 8 undef, .int .i64 1]).cell 1)) | (go_at_call 37; (with_reducible refine (M1.out _).mono ?_); rintro e w2 ⟨rfl, rfl⟩))
        have hBa := hBr.alloc hBr.size (.cells #[(chkRow w.heap.size).getD 8 undef, (chkRow w.heap.size).getD 9 undef] 143)
        have := HE.out
        subst this
        refine ⟨rfl, .inr ⟨by simp, by simp⟩, hBa.trans (hb.mono hBa.size)⟩
      | true =>
        go_wp2_with (go_at_call 93; (with_reducible refine (K5.out _ (cell_b (W := w) r3 rfl _)).mono ?_); rintro e w1 ⟨rfl, hb⟩)
        go_roundg (gk - 1)
        case measure => omega
        case rel => exact ⟨5, by first | rfl | go_num, by omega, (G ((chkRow w.heap.size).getD 8 undef) ((chkRow w.heap.size).getD 9 undef)).below hb, by simp, by simp, by simp, by simp, by simp⟩
    · have q1 := t1 (by omega)
      have q2 := t2 (by omega)
      have q3 := t3 (by omega)
      have q4 := t4 (by omega)
      have q5 := t5 (by omega)
      subst q1 q2 q3 q4 q5
      clear t1 t2 t3 t4 t5 c0 c1 c2 c3 c4 c5 c6 c7 c8 c9
      have hE0 : E = 0 := HE.out.symm
      have HE0 := Lib.hid hE0
      clear HE hE0
      go_wp2_with fail
      go_end0
      exact ⟨.inl ⟨HE0.out, rfl⟩, hBr⟩

end Go.Proofs.YthckledagggoiaaGreatDoor
