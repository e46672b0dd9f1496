import Derived.Test.YtlbnbginippjfaaLawL5
set_option linter.unusedSimpArgs false
set_option linter.unusedVariables false
namespace Go.Proofs.Ytlbnbginippjfaa
open Go.RowKit Go.WideShapes Go.ChangeShapes Go.Deep Fk
set_option maxRecDepth 100000 in
set_option maxHeartbeats 2000000 in
theorem part_no (l : List Int) (A : Option Addr) (c : Nat) (t r : Tr) (n : Int) (w : World) (h : SlI w w.heap.size (.slice A l.length c) l) (hok : rightB l = false) :
    Calls Try.prog 6 #[.slice A l.length c, t.val, r.val, .int .u8 n] w fun e w' => e = .returned (.bool true) ∧ Below w.heap.size w w' := by
  have HS := Lib.hid h
  have c1 := fun (W : World) (B0 : Nat) (h : SlI W B0 (.slice A l.length c) l) => right_any l _ W B0 h
  rw [hok] at c1
  have H1 := Lib.hid c1
  clear c1 h hok
  unfold Tr.val
  go_enter Try.func6, Try.ntmps6
  go_wp2_with (first
    | (go_at_call 11; (with_reducible refine (sane10 _).mono ?_); rintro e w1 ⟨rfl, hb⟩; obtain ⟨hB, hz, p0, p1⟩ := stepP2 hb; clear hb; obtain ⟨q0, q1, q2⟩ := st3 p0)
    | (go_at_call 20; (with_reducible refine (H1.out _ _ (HS.out.below hB)).mono ?_); rintro e wq ⟨rfl, rfl⟩))
  go_ret
  exact ⟨rfl, hB⟩
set_option maxRecDepth 100000 in
set_option maxHeartbeats 2000000 in
theorem part_words (l : List Int) (A : Option Addr) (c : Nat) (t r : Tr) (n : Int) (w : World) (h : SlI w w.heap.size (.slice A l.length c) l) (hok : rightB l = true) (hw : wOK t = false) :
    Calls Try.prog 6 #[.slice A l.length c, t.val, r.val, .int .u8 n] w fun e w' => e = .returned (.bool true) ∧ Below w.heap.size w w' := by
  have HS := Lib.hid h
  have c1 := fun (W : World) (B0 : Nat) (h : SlI W B0 (.slice A l.length c) l) => right_any l _ W B0 h
  rw [hok] at c1
  have c2 := fun w => words_any t w
  rw [hw] at c2
  have H1 := Lib.hid c1
  have H2 := Lib.hid c2
  clear c1 c2 h hok hw
  unfold Tr.val
  go_enter Try.func6, Try.ntmps6
  go_wp2_with (first
    | (go_at_call 11; (with_reducible refine (sane10 _).mono ?_); rintro e w1 ⟨rfl, hb⟩; obtain ⟨hB, hz, p0, p1⟩ := stepP2 hb; clear hb; obtain ⟨q0, q1, q2⟩ := st3 p0)
    | (go_at_call 20; (with_reducible refine (H1.out _ _ (HS.out.below hB)).mono ?_); rintro e wq ⟨rfl, rfl⟩)
    | (go_at_call 21; refine (H2.out _).mono ?_; rintro e w3 ⟨rfl, hb⟩; replace hB := hB.trans (hb.mono hB.size); clear hb))
  go_ret
  exact ⟨rfl, hB⟩
set_option maxRecDepth 100000 in
set_option maxHeartbeats 2000000 in
theorem part_zero (A : Option Addr) (c : Nat) (t r : Tr) (n : Int) (w : World) (h : SlI w w.heap.size (.slice A 0 c) []) (hw : wOK t = true) :
    Calls Try.prog 6 #[.slice A 0 c, t.val, r.val, .int .u8 n] w fun e w' => e = .returned (.bool true) ∧ Below w.heap.size w w' := by
  have HS := Lib.hid h
  have c1 := fun (W : World) (B0 : Nat) (h : SlI W B0 (.slice A 0 c) []) => right_any [] _ W B0 h
  rw [show rightB [] = true from rfl] at c1
  have c2 := fun w => words_any t w
  rw [hw] at c2
  have H1 := Lib.hid c1
  have H2 := Lib.hid c2
  clear c1 c2 h hw
  unfold Tr.val
  go_enter Try.func6, Try.ntmps6
  go_wp2_with (first
    | (go_at_call 11; (with_reducible refine (sane10 _).mono ?_); rintro e w1 ⟨rfl, hb⟩; obtain ⟨hB, hz, p0, p1⟩ := stepP2 hb; clear hb; obtain ⟨q0, q1, q2⟩ := st3 p0)
    | (go_at_call 20; (with_reducible refine (H1.out _ _ (HS.out.below hB)).mono ?_); rintro e wq ⟨rfl, rfl⟩)
    | (go_at_call 21; refine (H2.out _).mono ?_; rintro e w3 ⟨rfl, hb⟩; replace hB := hB.trans (hb.mono hB.size); clear hb))
  go_ret
  exact ⟨rfl, hB⟩
def capOK (v : Value) (l : List Int) : Prop := ∃ (A : Option Addr) (c : Nat), v = .slice A l.length c ∧ l.length ≤ c ∧ c ≤ maxLen
theorem elgamalPart_walk (l : List Int) (v : Value) (t r : Tr) (n : Int) (w : World) (h : SlI w w.heap.size v l) (hc : capOK v l) (_ : wfT t) (_ : wfT r) (hn : (Lit.int .u8 n).wf = true) :
    Calls Try.prog 6 #[v, t.val, r.val, .int .u8 n] w fun e w' => e = .returned (.bool true) ∧ Below w.heap.size w w' := by
  obtain ⟨A, c, rfl, hc1, hc2⟩ := hc
  cases hok : rightB l with
  | false => exact part_no l A c t r n w h hok
  | true =>
    cases hw : wOK t with
    | false => exact part_words l A c t r n w h hok hw
    | true =>
      match l, h, hc1, hok with
      | [], h, hc1, hok => exact part_zero A c t r n w h hw
      | x :: l', h, hc1, hok =>
        have h' := h
        obtain ⟨_, A', c', hv, hE⟩ := h'
        obtain ⟨b, off, rfl, _, _⟩ := hE (by simp)
        cases hv
        have h5 : (x :: l').length ≤ 5 := by
          unfold rightB at hok
          simp only [Bool.and_eq_true, decide_eq_true_eq] at hok
          exact hok.2
        exact part_main (x :: l') b off c t r n w h hok hw (by simp) h5 hc1 hc2 (bounds_u8 hn)
section
variable {H : Type} {enc : TypeId × Value → H} {w : World} {base : Nat} {r : Reach}
theorem open_sl_capt {v : Value} {d : DataW H} {p : List MemPlace} (hv : Value.okWide Try.prog w r base 22 v) (h : DataW.Trod enc Try.prog w 0 (fun _ => true) true 22 v d p) :
    ∃ l : List Int, SlI w w.heap.size v l ∧ capOK v l := by
  obtain ⟨a, len, cap, rfl⟩ := okWide_slice Try.underlying22 hv
  obtain ⟨fuel, hf⟩ := h
  rw [cells_slice] at hf
  rcases open_ints Try.underlying22 Try.underlying3 (by kernel_rfl) hf with ⟨hcs, _⟩ | ⟨a', len', cap', zs, hcs, _, hl, hm, hz, _, hcell, hwf⟩
  · obtain ⟨rfl, rfl, rfl⟩ : a = none ∧ len = 0 ∧ cap = 0 := by simpa using hcs
    exact ⟨[], SlG.nil_ _ _, none, 0, rfl, Nat.le_refl _, by unfold maxLen; omega⟩
  · obtain ⟨rfl, rfl, rfl⟩ : a = some a' ∧ len = len' ∧ cap = cap' := by simpa using hcs
    simp only [if_true] at hz
    obtain ⟨l, h1, _⟩ := sl_of_cells (m := 1) (en := encI) (a := a') (len := len) (cap := cap) (w := w) (Q := fun _ => True) (by omega) (by unfold maxLen at hm; omega) (fun i hi => ⟨zs.getD i 0, trivial, fun j hj => by
      obtain rfl : j = 0 := by omega
      rw [Nat.mul_one, Nat.add_zero]
      exact hcell i (by omega)⟩)
    refine ⟨l, h1, some a', cap, ?_, ?_, hm⟩
    · obtain ⟨_, A2, c2, hv2, _⟩ := h1
      injection hv2 with e1 e2 e3
      rw [e2]
    · obtain ⟨_, A2, c2, hv2, _⟩ := h1
      injection hv2 with e1 e2 e3
      omega
end
end Go.Proofs.Ytlbnbginippjfaa
