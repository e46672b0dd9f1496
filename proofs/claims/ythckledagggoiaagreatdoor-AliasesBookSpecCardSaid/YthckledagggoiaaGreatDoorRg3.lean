import Derived.Test.YthckledagggoiaaGreatDoorRg2
set_option linter.unusedSimpArgs false
set_option linter.unusedVariables false
namespace Go.Proofs.YthckledagggoiaaGreatDoor
open Go.RowKit Fk
/-! The registry: entries are checked. -/
abbrev SlE (w : World) (B0 : Nat) (v : Value) (l : List En) : Prop := SlG 8 En.cells w B0 v l
def okTo (last : Int) : List En → Bool
  | [] => true
  | x :: r => validB x && (decide (last < x.no) && okTo x.no r)
def okL (l : List En) : Bool := okTo (-1) l
def chkE (l : List En) : Int := if 1024 < l.length then 2 else if okL l then 0 else 330
theorem drop_at {l : List En} {k : Nat} (h : k < l.length) : l.drop k = l.getD k default :: l.drop (k + 1) := by
  rw [List.drop_eq_getElem_cons h, List.getD_eq_getElem?_getD, List.getElem?_eq_getElem h]; rfl
theorem entry_cells {w : World} {B0 n c : Nat} {A : Option Addr} {l : List En} (h : SlE w B0 (.slice A n c) l) {k : Nat} (hk : k < l.length) : ∃ b off, A = some ⟨b, off, none⟩ ∧ b < B0 ∧
    w.cell? ⟨b, off + k * 8, none⟩ = some (.int .i64 (l.getD k default).no) ∧ w.cell? ⟨b, off + k * 8 + 1, none⟩ = some (.int .i64 (l.getD k default).kind) ∧ w.cell? ⟨b, off + k * 8 + 2, none⟩ = some (.int .i64 (l.getD k default).a) ∧ w.cell? ⟨b, off + k * 8 + 3, none⟩ = some (.int .i64 (l.getD k default).b) ∧
    w.cell? ⟨b, off + k * 8 + 4, none⟩ = some (.int .i64 (l.getD k default).from_) ∧ w.cell? ⟨b, off + k * 8 + 5, none⟩ = some (.int .i64 (l.getD k default).until_) ∧ w.cell? ⟨b, off + k * 8 + 6, none⟩ = some (.int .i64 (l.getD k default).known) ∧ w.cell? ⟨b, off + k * 8 + 7, none⟩ = some (.int .i64 (l.getD k default).gone) := by
  obtain ⟨_, A', c', hv, hE⟩ := h
  obtain ⟨b, off, rfl, hb, hE⟩ := hE (by omega)
  cases hv
  exact ⟨b, off, rfl, hb, hE k hk 0 (by omega), hE k hk 1 (by omega), hE k hk 2 (by omega), hE k hk 3 (by omega), hE k hk 4 (by omega), hE k hk 5 (by omega), hE k hk 6 (by omega), hE k hk 7 (by omega)⟩
set_option maxRecDepth 100000 in
set_option maxHeartbeats 4000000 in
theorem rcheckl_any (l : List En) (v : Value) (w : World) (h : SlE w w.heap.size v l) :
    Calls Tryz.prog 125 #[v] w fun e w' => e = .returned (.int .i64 (chkE l)) ∧ Below w.heap.size w w' := by
  have hC : chkE l = if 1024 < l.length then 2 else if okL l then 0 else 330 := rfl
  have HS := Lib.hid h
  obtain ⟨hlen, A, c, rfl, _⟩ := h
  by_cases h1 : 1024 < l.length
  · have g1 : (1024 : Int) < l.length := by omega
    have HC := Lib.hid (show chkE l = 2 by rw [hC, if_pos h1])
    clear hC h1
    go_enter Tryz.func125, Tryz.ntmps125
    go_wp2
    go_ret
    exact ⟨by rw [HC.out]; rfl, Below.refl _ _⟩
  have g1 : ¬ (1024 : Int) < l.length := by omega
  rw [if_neg h1] at hC
  have HC := Lib.hid hC
  have hl64 : l.length ≤ 1024 := by omega
  clear hC h1
  go_enter Tryz.func125, Tryz.ntmps125
  go_wp2
  go_loopg [3, 12] l.length (fun g lv iv wr => Below w.heap.size w wr ∧ ∃ (k : Nat) (last : Int), iv = .int .i64 k ∧ lv = .int .i64 last ∧ k + g = l.length ∧ okL l = okTo last (l.drop k))
  case atStart => exact ⟨Below.refl _ _, 0, -1, rfl, rfl, by omega, rfl⟩
  case round =>
    obtain ⟨hBr, k, last, rfl, rfl, hk, hok⟩ := hrel
    by_cases hlt : k < l.length
    · obtain ⟨b, off, rfl, hb, d0, d1, d2, d3, d4, d5, d6, d7⟩ := entry_cells (HS.out.below hBr) hlt
      rw [drop_at hlt] at hok
      obtain ⟨x, hx⟩ : ∃ x, l.getD k default = x := ⟨_, rfl⟩
      rw [hx] at d0 d1 d2 d3 d4 d5 d6 d7 hok
      have hst : okTo last (x :: l.drop (k + 1)) = (validB x && (decide (last < x.no) && okTo x.no (l.drop (k + 1)))) := rfl
      rw [hst] at hok
      have s1 : (0 : Int) ≤ k := by omega
      have s2 : (k : Int) < l.length := by omega
      have hzb : b < wr.heap.size := by have := hBr.size; omega
      have hv := fun w => echk_any x w
      clear hx hst
      cases f : validB x with
      | false =>
        rw [valE_1 f] at hv
        rw [f, Bool.false_and] at hok
        have HR := Lib.hid (show chkE l = 330 by rw [HC.out, hok]; rfl)
        have HV := Lib.hid hv
        unfold En.val at HV
        have hBa := hBr.alloc hBr.size (.cells #[.int .i64 x.no, .int .i64 x.kind, .int .i64 x.a, .int .i64 x.b, .int .i64 x.from_, .int .i64 x.until_, .int .i64 x.known, .int .i64 x.gone] 49)
        clear hv hok f
        go_wp2_with (go_at_call 149; (with_reducible refine (HV.out _).mono ?_); rintro e w1 ⟨rfl, hb1⟩)
        go_ret
        exact ⟨by rw [HR.out]; rfl, hBa.trans (hb1.mono hBa.size)⟩
      | true =>
        rw [valE_0 f] at hv
        rw [f, Bool.true_and] at hok
        have HV := Lib.hid hv
        unfold En.val at HV
        have hBa := hBr.alloc hBr.size (.cells #[.int .i64 x.no, .int .i64 x.kind, .int .i64 x.a, .int .i64 x.b, .int .i64 x.from_, .int .i64 x.until_, .int .i64 x.known, .int .i64 x.gone] 49)
        have r0 := Row.new wr 49 [.int .i64 x.no, .int .i64 x.kind, .int .i64 x.a, .int .i64 x.b, .int .i64 x.from_, .int .i64 x.until_, .int .i64 x.known, .int .i64 x.gone]
        have HR0 := Lib.hid r0
        by_cases hn : x.no ≤ last
        · rw [decide_eq_false (show ¬ last < x.no by omega), Bool.false_and] at hok
          have HR := Lib.hid (show chkE l = 330 by rw [HC.out, hok]; rfl)
          clear hv hok f r0
          go_wp2_with (go_at_call 149; (with_reducible refine (HV.out _).mono ?_); rintro e w1 ⟨rfl, hb1⟩; have r1 := HR0.out.below hb1 HR0.out.lt; have e0 : w1.cell? ⟨wr.heap.size, 0, none⟩ = some (.int .i64 x.no) := r1.cell 0)
          go_ret
          exact ⟨by rw [HR.out]; rfl, hBa.trans (hb1.mono hBa.size)⟩
        · rw [decide_eq_true (show last < x.no by omega), Bool.true_and] at hok
          have HK := Lib.hid hok
          clear hv hok f r0
          go_wp2_with (go_at_call 149; (with_reducible refine (HV.out _).mono ?_); rintro e w1 ⟨rfl, hb1⟩; have r1 := HR0.out.below hb1 HR0.out.lt; have e0 : w1.cell? ⟨wr.heap.size, 0, none⟩ = some (.int .i64 x.no) := r1.cell 0)
          go_roundg (gk - 1)
          case measure => omega
          case rel => exact ⟨hBa.trans (hb1.mono hBa.size), k + 1, x.no, by first | rfl | go_num, rfl, by omega, HK.out⟩
    · obtain rfl : k = l.length := by omega
      rw [List.drop_length] at hok
      have HR := Lib.hid (show chkE l = 0 by rw [HC.out, hok]; rfl)
      clear hok
      go_wp2
      go_ret
      exact ⟨by rw [HR.out]; rfl, hBr⟩
end Go.Proofs.YthckledagggoiaaGreatDoor
