import Derived.Test.YtlbnbginippjfaaEl5
set_option linter.unusedSimpArgs false
namespace Go.Proofs.Ytlbnbginippjfaa
open Go.RowKit Go.Shelf Fk
theorem wide_fn' (f : FuncId) : Fence.wide.fn f = True := rfl

set_option maxHeartbeats 2000000 in
theorem strip_in (k : Nat) (hk : k < 3) (s : Se) (n : Int) (bs bn : Nat) (W : World) (h : RowS W bs s) (hn : Boxed W bn 3 (.int .i64 n)) (hn1 : 1 ≤ n) (hn2 : n < 1073741789)
    (_hca : 0 ≤ (s.get k).a ∧ (s.get k).a < 2147483579) (hcb : 0 ≤ (s.get k).b ∧ (s.get k).b < 2147483579) :
    Calls Try.prog 45 #[.int .i64 (k : Int), .pointer (some ⟨bs, k * 2, none⟩), .pointer (some ⟨bn, 0, none⟩)] W (ranC bs (s.set k (stripC n k (s.get k))) W) := by
  have c1 := h.ca hk
  have c2 := h.cb hk
  have c4 := hn.cell
  have hs := set_cells_b s (stripC n k (s.get k)) hk rfl
  have hlb := Row.lt h
  have hlk := Boxed.lt hn
  have hkeep := fun (w' : World) (hw : Below W.heap.size W w') => (Row.keep h (hw.block bs hlb) : RowS w' bs s)
  have hmo : stripC n k (s.get k) = ⟨(s.get k).a, (s.get k).b * powC (s.get k).a (-n) % 2147483579⟩ := rfl
  obtain ⟨c, hc⟩ : ∃ c, s.get k = c := ⟨_, rfl⟩
  rw [hc] at c1 c2 hcb hs hmo
  rw [hmo] at hs
  have p1 := powC_bd c.a (-n)
  have q1 := fun w => epow_any c.a (-n) w
  generalize powC c.a (-n) = x1 at *
  have HS := Lib.hid hs
  have HM := Lib.hid hmo
  have Q1 := Lib.hid q1
  have HK := Lib.hid hkeep
  have hS0 : SMo W ⟨bs, k * 2, none⟩ ⟨bs, k * 2 + 1, none⟩ ⟨bn, 0, none⟩ ⟨bn, 0, none⟩ (.int .i64 c.a) (.int .i64 c.b) (.int .i64 n) (.int .i64 n) W.drew := ⟨(Below.refl _ _).drew, c1, c2, c4, c4⟩
  have s1 : (0 : Int) ≤ k := by omega
  have s2 : (k : Int) < 3 := by omega
  have s3 : IntKind.i64.wrap (-n) = -n := by rw [IntKind.wrap_i64]; omega
  clear hs hmo q1 h hn hkeep
  go_enter Try.func45, Try.ntmps45
  refine wp_region_ord 14 [(1, 0), (1, 1), (1, 2), (1, 3), (1, 4), (1, 5), (1, 6), (1, 7), (1, 8), (1, 9), (1, 10), (2, 11), (2, 12), (2, 13)]
    (SMo W ⟨bs, k * 2, none⟩ ⟨bs, k * 2 + 1, none⟩ ⟨bn, 0, none⟩ ⟨bn, 0, none⟩ (.int .i64 c.a) (.int .i64 c.b) (.int .i64 n) (.int .i64 n)) (by kernel_rfl) (by kernel_rfl) (fun _ _ d _ _ h => by cases d <;> exact h) hS0 ?_
  iterate 11
    refine wpOrd_take (v := ?_) rfl (by rfl) (fun w hSw => ?_) ?_
    rotate_left 1
    · obtain ⟨hSB, hS1, hS2, hS3, hS4⟩ := hSw
      go_simp
      with_reducible rfl
    simp only [Act.put, List.setIfInBounds_toArray, List.set_cons_zero, List.set_cons_succ]
  refine wpOrd_step rfl (fun K hK => ⟨by rfl, ?_⟩)
  go_simp
  go_at_call 47
  refine (Q1.out _).mono ?_
  rintro e w1 ⟨rfl, hb⟩
  refine hK _ _ (hS0.below hlb hlb hlk hlk hb) ?_
  replace hS0 := hS0.below hlb hlb hlk hlk hb
  clear hK K hb
  refine wpOrd_step rfl (fun K hK => ⟨by rfl, ?_⟩)
  go_simp
  refine hK _ _ (hS0.below hlb hlb hlk hlk (below_alloc _ _)) ?_
  replace hS0 := hS0.below hlb hlb hlk hlk (below_alloc _ (Obj.cells #[Value.int IntKind.i64 c.b, Value.int IntKind.i64 x1] 3))
  clear hK K
  refine wpOrd_step rfl (fun K hK => ⟨by rfl, ?_⟩)
  go_simp
  go_at_call 46
  refine (times_two c.b x1 hcb p1 w1.heap.size _ (by simp) (by simp)).mono ?_
  rintro e w2 ⟨rfl, rfl⟩
  refine hK _ _ hS0 ?_
  clear hK K
  generalize w1.alloc (Obj.cells #[Value.int IntKind.i64 c.b, Value.int IntKind.i64 x1] 3) = w6 at *
  refine wpOrd_nil ?_
  simp only [List.drop_succ_cons, List.drop_zero]
  have hBW := hS0.1
  have hRow := HK.out _ hBW
  have g2 : w6.frozen? ⟨bs, k * 2 + 1, none⟩ = false := Row.frozen hRow _
  have g4 : w6.cell? ⟨bs, k * 2 + 1, none⟩ = some (.int .i64 c.b) := hS0.2.2.1
  have HRow := Lib.hid hRow
  clear hRow hS0 c1 c2 c4 s3
  go_wp2_with fail
  go_end0
  refine ⟨⟨_, rfl⟩, ?_, ?_⟩
  · show Row _ _ _ _
    rw [HM.out, HS.out]
    exact Row.store HRow.out (k * 2 + 1) _
  · exact grown_set (grown_below hBW _) rfl

set_option maxHeartbeats 400000 in
theorem more_any (key : Int) (r : Tr) (w : World) :
    Calls Try.prog 41 #[.int .i64 key, r.val] w fun e w' => e = .returned (.func (.func 60) #[] #[.pointer (some ⟨w.heap.size + 1, 0, none⟩), .pointer (some ⟨w.heap.size, 0, none⟩)]) ∧
      (w.alloc (.cells #[.int .i64 key] 3)).alloc (.cells r.cells.toArray 29) = w' := by
  unfold Tr.val Tr.cells
  go_enter Try.func41, Try.ntmps41
  go_wp2
  go_ret
  exact ⟨rfl, rfl⟩
end Go.Proofs.Ytlbnbginippjfaa
