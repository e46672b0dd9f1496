import Derived.Test.YtlbnbginippjfaaRestP
import Derived.Test.YtlbnbginippjfaaSl
import Derived.Test.YtlbnbginippjfaaGroup
import Derived.Deep.LoopGhost
import Derived.StillTailTactics
import Derived.Laws.NewBlocks
import Derived.Laws.OwnMore
import Derived.IntWalk
import Derived.Deep.RegionHeld3
namespace Go.Proofs.Ytlbnbginippjfaa
open Go.RowKit Fk

theorem replicate_set (n : Nat) (v : Value) (r : List Value) : (List.replicate (n + 1) (Value.int .i64 0) ++ r).set n v = List.replicate n (Value.int .i64 0) ++ v :: r := by
  rw [List.replicate_succ', List.append_assoc, List.set_append_right _ _ (by simp)]
  simp

theorem ret_t2 {x : Value} {a b : Int} (h : a = b) : Ending.returned (.tuple #[x, .int .i64 a]) = .returned (.tuple #[x, .int .i64 b]) := by rw [h]
theorem infoI : (Try.prog.info? 3).map (fun i => (i.zero, i.size, i.bytes)) = some (some (.int .i64 0), 1, 8) := by kernel_rfl
theorem madeCells_int (n : Nat) : madeCells #[Value.int .i64 0] n = (List.replicate n (Value.int .i64 0)).toArray := by
  apply Array.ext'
  rw [toList_madeCells_one]
/-- make([]int, n) -/
theorem run_make_int (n : Nat) (hn : n ≤ 1000000) (w : World) : (Instr.makeSlice 22 (.int .i64 (n : Int)) (.int .i64 (n : Int))).run Try.prog w = .ok (.slice (some ⟨w.heap.size, 0, none⟩) n n) (w.alloc (.cells (List.replicate n (Value.int .i64 0)).toArray 3)) := by
  obtain ⟨i0, hi, hz0, hz1, hz2⟩ := info_parts infoI
  have hr := run_make (P := Try.prog) w 22 3 i0 (.int .i64 0) Try.underlying22 hi hz0 .i64 .i64 (n : Int) (n : Int) (by omega) (by omega) (by rw [hz2]; omega) (by omega)
  simp only [Int.toNat_natCast, hz1, Nat.mul_one] at hr
  rw [hr]
  congr 3
  exact madeCells_int n

set_option maxHeartbeats 1000000 in
theorem rest_in (l : List Int) (v : Value) (w : World) (B0 : Nat) (hB : B0 ≤ w.heap.size) (h : SlI w B0 v l) (hl : l.length ≤ 24) :
    Calls Try.prog 34 #[v] w fun e w' => ∃ r, e = .returned (.tuple #[r, .int .i64 (restE l)]) ∧ Below w.heap.size w w' ∧ SlI w' w'.heap.size r (restV l) := by
  have HS := Lib.hid h
  obtain ⟨hlen, A, c, rfl, _⟩ := h
  have hmk := run_make_int (l.length + 1) (by omega)
  rw [show ((l.length + 1 : Nat) : Int) = (l.length : Int) + 1 from by omega] at hmk
  go_enter Try.func34, Try.ntmps34
  go_wp2_with fail
  have hW0 : Row (w.alloc (Obj.cells ((Array.replicate (l.length + 1) (Value.int IntKind.i64 0)).setIfInBounds l.length (Value.int IntKind.i64 1)) 3)) w.heap.size 3 (List.replicate l.length (Value.int .i64 0) ++ (restL (l.drop l.length)).map (Value.int .i64)) := by
    have e : (Array.replicate (l.length + 1) (Value.int IntKind.i64 0)).setIfInBounds l.length (Value.int IntKind.i64 1) = (List.replicate l.length (Value.int .i64 0) ++ (restL (l.drop l.length)).map (Value.int .i64)).toArray := by
      apply Array.ext'
      rw [List.drop_length]
      have := replicate_set l.length (.int .i64 1) []
      rw [List.append_nil] at this
      simpa [restL] using this
    rw [e]
    exact Row.new w _ _
  have hB0 : Below w.heap.size w (w.alloc (Obj.cells ((Array.replicate (l.length + 1) (Value.int IntKind.i64 0)).setIfInBounds l.length (Value.int IntKind.i64 1)) 3)) := (Below.refl _ _).alloc (Nat.le_refl _) _
  have hz0 : w.heap.size + 1 ≤ (w.alloc (Obj.cells ((Array.replicate (l.length + 1) (Value.int IntKind.i64 0)).setIfInBounds l.length (Value.int IntKind.i64 1)) 3)).heap.size := by simp
  generalize w.alloc (Obj.cells ((Array.replicate (l.length + 1) (Value.int IntKind.i64 0)).setIfInBounds l.length (Value.int IntKind.i64 1)) 3) = W0 at *
  clear hmk
  go_loopg [2, 4] l.length (fun k s i wr => s = .slice (some ⟨w.heap.size, 0, none⟩) (l.length + 1) (l.length + 1) ∧ Below w.heap.size w wr ∧ w.heap.size + 1 ≤ wr.heap.size ∧ i = .int .i64 ((k : Int) - 1) ∧ k ≤ l.length ∧ allV (l.drop k) = true ∧ Row wr w.heap.size 3 (List.replicate k (Value.int .i64 0) ++ (restL (l.drop k)).map (Value.int .i64)))
  case atStart => exact ⟨rfl, hB0, hz0, rfl, Nat.le_refl _, by rw [List.drop_length]; rfl, hW0⟩
  case round =>
    obtain ⟨rfl, hBr, hzr, rfl, hk, hV, hR⟩ := hrel
    cases gk with
    | zero =>
      have q2 : restE l = 0 := by
        unfold restE
        rw [if_neg (by omega), if_pos]
        simpa using hV
      have q3 : restV l = restL l := by unfold restV; rw [if_pos q2]
      have HQ := Lib.hid q2
      have HQ3 := Lib.hid q3
      have HR : Hid (SlI wr wr.heap.size (.slice (some ⟨w.heap.size, 0, none⟩) (l.length + 1) (l.length + 1)) (restL l)) := by
        have h1 : Row wr w.heap.size 3 ((restL l).flatMap encI) := by
          have e : (restL l).flatMap encI = (restL l).map (Value.int .i64) := by
            generalize restL l = r
            induction r with
            | nil => rfl
            | cons a r ih => rw [List.flatMap_cons, ih]; rfl
          rw [e]; simpa using hR
        have h2 := Row.sl (m := 1) (c := l.length + 1) h1 (fun _ => rfl) (by rw [restL_length]; omega) (B0 := wr.heap.size) (by omega)
        rw [restL_length] at h2
        exact h2
      clear q2 q3 hR hV
      go_wp2
      go_ret2
      exact ⟨_, ret_t2 HQ.out.symm, hBr, by rw [HQ3.out]; exact HR.out⟩
    | succ k =>
      rw [show ((k + 1 : Nat) : Int) - 1 = (k : Int) from by omega]
      have HS' := HS.out.below (hBr.mono hB)
      obtain ⟨_, A', c', hv, hE⟩ := HS'
      obtain ⟨b, off, rfl, hb, hE⟩ := hE (by omega)
      cases hv
      have d1 := hE.int (i := k) (by omega)
      have hdr := drop_consD (l := l) (k := k) (by omega)
      have hav := allV_drop (l := l) (k := k) (by omega)
      obtain ⟨x, hx⟩ : ∃ x, l.getD k default = x := ⟨_, rfl⟩
      rw [hx] at d1 hdr hav
      obtain ⟨y, hy⟩ : ∃ y, (restL (l.drop (k + 1))).headD 0 = y := ⟨_, rfl⟩
      have hy2 : restL (l.drop (k + 1)) = y :: (restL (l.drop (k + 1))).tail := by
        have := restL_length (l.drop (k + 1))
        cases hr : restL (l.drop (k + 1)) with
        | nil => rw [hr] at this; simp at this
        | cons a r => rw [hr] at hy; simp at hy; simp [hy]
      have d2 : wr.cell? ⟨w.heap.size, k + 1, none⟩ = some (.int .i64 y) := by
        rw [hR.cell, List.getElem?_append_right (by simp), hy2]; simp
      have d3 : wr.cell? ⟨w.heap.size, k, none⟩ = some (.int .i64 0) := by
        rw [hR.cell, List.getElem?_append_left (by simp)]; simp
      have d4 := hR.frozen k
      have hvy : vld y = true := by rw [← hy]; exact restL_head hV
      have e1 : ∀ u, (wr.setCell ⟨w.heap.size, k, none⟩ u).cell? ⟨b, off + k, none⟩ = some (.int .i64 x) := fun u => (World.cell?_setCell_other wr _ _ u (fun e => by injection e; omega)).trans d1
      have e2 : ∀ u, (wr.setCell ⟨w.heap.size, k, none⟩ u).cell? ⟨w.heap.size, k + 1, none⟩ = some (.int .i64 y) := fun u => (World.cell?_setCell_other wr _ _ u (fun e => by injection e; omega)).trans d2
      have hBn : ∀ u, Below w.heap.size w (wr.setCell ⟨w.heap.size, k, none⟩ u).drew := fun u => (hBr.setCell (p := ⟨w.heap.size, k, none⟩) (Nat.le_refl _) u).drew
      have HBn := Lib.hid hBn
      clear hBn
      cases hvx : vld x with
      | true =>
        have q1 : mulE x y = 0 := by simp [mulE, hvx, hvy]
        have HV : Hid (allV (l.drop k) = true) := by show _ = _; rw [hav, hvx, hV]; rfl
        have HR : Hid (∀ w1 : World, w1.heap[w.heap.size]? = (wr.setCell ⟨w.heap.size, k, none⟩ (.int .i64 (mulC x y))).heap[w.heap.size]? → Row w1 w.heap.size 3 (List.replicate k (Value.int .i64 0) ++ (restL (l.drop k)).map (Value.int .i64))) := by
          intro w1 hw1
          have h1 := (hR.store k (.int .i64 (mulC x y))).keep hw1
          rw [replicate_set] at h1
          rw [hdr, restL, hy]
          exact h1
        go_wp2_with fail
        have s1 : IntKind.i64.wrap ((k : Int) + 1) = (k : Int) + 1 := IntWalk.i64_in _ (by omega)
        have s2 : (0 : Int) ≤ (k : Int) + 1 := by omega
        have s3 : ((k : Int) + 1).toNat = k + 1 := by omega
        have s4 : (k : Int) < l.length := by omega
        have s5 : (0 : Int) ≤ k := by omega
        have s6 : (k : Int) + 1 < l.length + 1 := by omega
        have s7 : (k : Int) < (l.length : Int) + 1 := by omega
        clear hdr hav hx hy hy2 hV hR hE
        go_region_held3 (fun w' => w'.cell? ⟨b, off + k, none⟩ = some (.int .i64 x) ∧ w'.cell? ⟨w.heap.size, k + 1, none⟩ = some (.int .i64 y)) (go_keep)
          (first | (go_at_call 30; refine (mul_any _ _ _).mono ?_; rintro e w' ⟨rfl, rfl⟩))
        all_goals clear s1 s2 s3 s6 s7
        all_goals go_wp2
        all_goals go_roundg k
        all_goals first | (case measure => omega) | exact ⟨rfl, HBn.out _, by simp [World.setCell]; omega, by go_num, by omega, HV.out, HR.out _ rfl⟩
      | false =>
        have q1 : mulE x y = 90 := by simp [mulE, hvx]
        have q2 : restE l = 90 := by
          unfold restE
          rw [if_neg (by omega), if_neg]
          rw [allV_false (k := k) (by rw [hav, hvx]; rfl)]
          simp
        have q3 : restV l = [] := by unfold restV; rw [if_neg (by rw [q2]; omega)]
        have HQ := Lib.hid q2
        have HQ3 := Lib.hid q3
        clear q2 q3
        go_wp2_with fail
        have s1 : IntKind.i64.wrap ((k : Int) + 1) = (k : Int) + 1 := IntWalk.i64_in _ (by omega)
        have s2 : (0 : Int) ≤ (k : Int) + 1 := by omega
        have s3 : ((k : Int) + 1).toNat = k + 1 := by omega
        have s4 : (k : Int) < l.length := by omega
        have s5 : (0 : Int) ≤ k := by omega
        have s6 : (k : Int) + 1 < l.length + 1 := by omega
        have s7 : (k : Int) < (l.length : Int) + 1 := by omega
        clear hdr hav hx hy hy2 hV hR hE
        go_region_held3 (fun w' => w'.cell? ⟨b, off + k, none⟩ = some (.int .i64 x) ∧ w'.cell? ⟨w.heap.size, k + 1, none⟩ = some (.int .i64 y)) (go_keep)
          (first | (go_at_call 30; refine (mul_any _ _ _).mono ?_; rintro e w' ⟨rfl, rfl⟩))
        all_goals clear s1 s2 s3 s6 s7
        all_goals go_wp2
        all_goals go_ret2
        all_goals exact ⟨.slice none 0 0, ret_t2 HQ.out.symm, HBn.out _, by rw [HQ3.out]; exact SlG.nil_ _ _⟩
set_option maxHeartbeats 400000 in
theorem rest_any (l : List Int) (v : Value) (w : World) (B0 : Nat) (hB : B0 ≤ w.heap.size) (h : SlI w B0 v l) :
    Calls Try.prog 34 #[v] w fun e w' => ∃ r, e = .returned (.tuple #[r, .int .i64 (restE l)]) ∧ Below w.heap.size w w' ∧ SlI w' w'.heap.size r (restV l) := by
  by_cases hl : l.length ≤ 24
  · exact rest_in l v w B0 hB h hl
  · obtain ⟨hlen, A, c, rfl, _⟩ := h
    have q2 : restE l = 2 := by unfold restE; rw [if_pos (by omega)]
    have q3 : restV l = [] := by unfold restV; rw [if_neg (by rw [q2]; omega)]
    rw [q2, q3]
    clear q2 q3
    have core : Calls Try.prog 34 #[.slice A l.length c] w fun e w' => e = .returned (.tuple #[.slice none 0 0, .int .i64 2]) ∧ w = w' := by
      go_enter Try.func34, Try.ntmps34
      go_wp2
      go_ret2
      exact ⟨rfl, rfl⟩
    exact core.mono fun e w' ⟨he, hw⟩ => ⟨_, he, hw ▸ Below.refl _ _, SlG.nil_ _ _⟩
end Go.Proofs.Ytlbnbginippjfaa
