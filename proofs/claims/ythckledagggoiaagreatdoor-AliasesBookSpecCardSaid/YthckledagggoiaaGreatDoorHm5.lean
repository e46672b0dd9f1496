import Derived.Test.YthckledagggoiaaGreatDoorHm4
set_option linter.unusedSimpArgs false
set_option linter.unusedVariables false
namespace Go.Proofs.YthckledagggoiaaGreatDoor
open Go.RowKit Go.MapKept Go.Shelf Fk
/-! homes.Where: its functions. -/
abbrev homeV (k p o : Int) : Value := .agg #[.int .i64 k, .int .i64 p, .int .i64 o]
set_option maxHeartbeats 400000 in
theorem asked_any (q : Option Nat) (p : Int) (w : World) :
    Calls Tryz.prog 53 #[.map q, .int .i64 p] w fun e w' => e = .returned (.func (.func 111) #[] #[.pointer (some ⟨w.heap.size + 1, 0, none⟩), .pointer (some ⟨w.heap.size, 0, none⟩)]) ∧
      (w.alloc (.cells #[.map q] 104)).alloc (.cells #[.int .i64 p] 3) = w' := by
  go_enter Tryz.func53, Tryz.ntmps53
  go_wp2
  go_ret
  exact ⟨rfl, rfl⟩
set_option maxHeartbeats 1000000 in
theorem says_any (base bd b10 b11 : Nat) (D : Int → Int → Option En) (kind last : Int) (w : World) (h1 : Boxed w b10 104 (.map (some bd))) (h2 : Boxed w b11 3 (.int .i64 last)) (hd : DeskK base w bd D) :
    Calls Tryz.prog 94 #[.int .i64 kind, .pointer (some ⟨b10, 0, none⟩), .pointer (some ⟨b11, 0, none⟩)] w fun e w' => e = .returned (.bool (D kind last).isSome) ∧ Below w.heap.size w w' := by
  obtain ⟨mv, l1, l2⟩ := hd.look kind
  have l2p := l2 last true
  rw [if_pos rfl] at l2p
  have c1 := h1.cell
  have c2 := h2.cell
  obtain ⟨o, ho⟩ : ∃ o, (D kind last).getD zeroE = o := ⟨_, rfl⟩
  obtain ⟨s, hs⟩ : ∃ s, (D kind last).isSome = s := ⟨_, rfl⟩
  rw [ho, hs] at l2p
  rw [hs]
  unfold En.val at l2p
  clear ho hs l2 hd
  go_enter Tryz.func94, Tryz.ntmps94
  go_wp2
  go_ret
  exact ⟨rfl, (Below.refl _ _).alloc (Nat.le_refl _) _⟩
set_option maxHeartbeats 400000 in
theorem wh2_any (b12 : Nat) (c : Bool) (w : World) (h : Boxed w b12 4 (.bool c)) :
    Calls Tryz.prog 95 #[.pointer (some ⟨b12, 0, none⟩)] w fun e w' => e = .returned (.bool c) ∧ w' = w := by
  have c1 := h.cell
  go_enter Tryz.func95, Tryz.ntmps95
  go_wp2
  go_ret
  exact ⟨rfl, rfl⟩
theorem infoHome : (Tryz.prog.info? 30).map (·.size) = some 3 := by kernel_rfl
theorem ret_home {f : Func} {p : Tmp} (hf : f.results = #[.cell p 30]) (tmps : Array Value) (w : World) (g : Nat) (k q o : Int) (hp : tmps.getD p undef = .pointer (some ⟨g, 0, none⟩)) (hr : Row w g 30 [.int .i64 k, .int .i64 q, .int .i64 o]) :
    (results f tmps).run Tryz.prog w = .ok (homeV k q o) w :=
  results_cell_row hf tmps w g 30 _ (0, 0) _ hp hr Tryz.underlying30 rfl infoHome
set_option maxHeartbeats 400000 in
theorem wh3_any (b5 : Nat) (p : Int) (w : World) (h : Boxed w b5 3 (.int .i64 p)) :
    Calls Tryz.prog 96 #[.pointer (some ⟨b5, 0, none⟩)] w fun e w' => e = .returned (homeV 2 p 0) ∧ Below w.heap.size w w' := by
  have c1 := h.cell
  have hlt := h.lt
  go_enter Tryz.func96, Tryz.ntmps96
  go_wp2
  exact bodyPost_ret (ret_home rfl _ _ w.heap.size 2 p 0 rfl (Row.new w _ _)) rfl ⟨rfl, (Below.refl _ _).alloc (Nat.le_refl _) _⟩
set_option maxHeartbeats 400000 in
theorem wh5_any (b11 : Nat) (p : Int) (w : World) (h : Boxed w b11 3 (.int .i64 p)) :
    Calls Tryz.prog 98 #[.pointer (some ⟨b11, 0, none⟩)] w fun e w' => e = .returned (homeV 3 p 0) ∧ Below w.heap.size w w' := by
  have c1 := h.cell
  have hlt := h.lt
  go_enter Tryz.func98, Tryz.ntmps98
  go_wp2
  exact bodyPost_ret (ret_home rfl _ _ w.heap.size 3 p 0 rfl (Row.new w _ _)) rfl ⟨rfl, (Below.refl _ _).alloc (Nat.le_refl _) _⟩
theorem field_b (n k a b f u q g : Int) (w : World) : (Instr.field 49 (.agg #[.int .i64 n, .int .i64 k, .int .i64 a, .int .i64 b, .int .i64 f, .int .i64 u, .int .i64 q, .int .i64 g]) 3).run Tryz.prog w = .ok (.int .i64 b) w := by kernel_rfl
set_option maxRecDepth 100000 in
set_option maxHeartbeats 1000000 in
theorem wh7_any (base bd b10 b11 : Nat) (D : Int → Int → Option En) (last : Int) (w : World) (h1 : Boxed w b10 104 (.map (some bd))) (h2 : Boxed w b11 3 (.int .i64 last)) (hd : DeskK base w bd D) :
    Calls Tryz.prog 100 #[.pointer (some ⟨b11, 0, none⟩), .pointer (some ⟨b10, 0, none⟩)] w fun e w' => e = .returned (homeV 1 last ((D 1 last).getD zeroE).b) ∧ Below w.heap.size w w' := by
  have hd2 := hd.below ((Below.refl w.heap.size w).alloc (Nat.le_refl _) (.cells #[.int .i64 0, .int .i64 0, .int .i64 0] 30))
  obtain ⟨mv, l1, l2⟩ := hd2.look 1
  have l2p := l2 last false
  rw [if_neg (by decide)] at l2p
  have c1 := h1.cell
  have c2 := h2.cell
  have hl1 := h1.lt
  have hl2 := h2.lt
  obtain ⟨o, ho⟩ : ∃ o, (D 1 last).getD zeroE = o := ⟨_, rfl⟩
  rw [ho] at l2p
  rw [ho]
  unfold En.val at l2p
  clear ho l2 hd hd2
  have hf := field_b
  go_enter Tryz.func100, Tryz.ntmps100
  go_wp2
  exact bodyPost_ret (ret_home rfl _ _ w.heap.size 1 last o.b rfl (Row.new w _ _)) rfl ⟨rfl, (Below.refl _ _).alloc (Nat.le_refl _) _⟩
/-- the function value 'says', in its box -/
abbrev saysV (b10 b11 : Nat) : Value := .func (.func 94) #[] #[.pointer (some ⟨b10, 0, none⟩), .pointer (some ⟨b11, 0, none⟩)]
set_option maxHeartbeats 1000000 in
theorem wh6_any (base bd b10 b11 b15 : Nat) (D : Int → Int → Option En) (last : Int) (w : World) (h1 : Boxed w b10 104 (.map (some bd))) (h2 : Boxed w b11 3 (.int .i64 last)) (h3 : Boxed w b15 101 (saysV b10 b11)) (hd : DeskK base w bd D) :
    Calls Tryz.prog 99 #[.pointer (some ⟨b15, 0, none⟩)] w fun e w' => e = .returned (.bool (D 1 last).isSome) ∧ Below w.heap.size w w' := by
  have H1 := Lib.hid (says_any base bd b10 b11 D 1 last w h1 h2 hd)
  have c1 := h3.cell
  clear h1 h2 hd
  go_enter Tryz.func99, Tryz.ntmps99
  go_wp2_with (go_at_call 94; (with_reducible refine H1.out.mono ?_); rintro e w1 ⟨rfl, hb1⟩)
  go_ret
  exact ⟨rfl, hb1⟩
set_option maxHeartbeats 1000000 in
theorem wh4_any (base bd b10 b11 b15 : Nat) (D : Int → Int → Option En) (last : Int) (w : World) (h1 : Boxed w b10 104 (.map (some bd))) (h2 : Boxed w b11 3 (.int .i64 last)) (h3 : Boxed w b15 101 (saysV b10 b11)) (hd : DeskK base w bd D) :
    Calls Tryz.prog 97 #[.pointer (some ⟨b15, 0, none⟩)] w fun e w' => e = .returned (.bool ((D 3 last).isSome || (D 4 last).isSome)) ∧ Below w.heap.size w w' := by
  have H1 := Lib.hid (says_any base bd b10 b11 D 3 last w h1 h2 hd)
  have c1 := h3.cell
  cases hs : (D 3 last).isSome with
  | true =>
    rw [hs] at H1
    clear h1 h2 hd
    go_enter Tryz.func97, Tryz.ntmps97
    go_wp2_with (go_at_call 94; (with_reducible refine H1.out.mono ?_); rintro e w1 ⟨rfl, hb1⟩)
    go_ret
    exact ⟨rfl, hb1⟩
  | false =>
    rw [hs] at H1
    have H2 := Lib.hid (fun W (hb : Below w.heap.size w W) => says_any base bd b10 b11 D 4 last W ((hb.block _ h1.lt).trans h1) ((hb.block _ h2.lt).trans h2) (hd.below hb))
    have hl3 := h3.lt
    have H3 := Lib.hid h3
    clear h1 h2 hd h3
    rw [Bool.false_or]
    go_enter Tryz.func97, Tryz.ntmps97
    go_wp2_with (first | (go_at_call 94; (with_reducible refine H1.out.mono ?_); rintro e w1 ⟨rfl, hb1⟩; have c2 := (show Boxed w1 b15 101 (saysV b10 b11) from (hb1.block _ hl3).trans H3.out).cell) | (go_at_call 94; (with_reducible refine (H2.out _ hb1).mono ?_); rintro e w2 ⟨rfl, hb2⟩))
    go_ret
    exact ⟨rfl, hb1.trans (hb2.mono hb1.size)⟩
end Go.Proofs.YthckledagggoiaaGreatDoor
