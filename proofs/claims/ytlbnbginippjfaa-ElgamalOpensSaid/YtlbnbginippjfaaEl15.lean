import Derived.Test.YtlbnbginippjfaaEl10
import Derived.Test.YtlbnbginippjfaaEl12
import Derived.Test.YtlbnbginippjfaaElF
namespace Go.Proofs.Ytlbnbginippjfaa
open Go.RowKit Fk
/-! The law's own helpers. -/
theorem elE_cases (n : Int) : (elE n = 0 ∧ 1 ≤ n ∧ n ≤ 1073741789) ∨ (elE n ≠ 0 ∧ n < 1) ∨ (elE n ≠ 0 ∧ 1 ≤ n ∧ 1073741789 < n) := by
  unfold elE
  by_cases h : 1 ≤ n
  · by_cases h' : n ≤ 1073741789
    · exact .inl ⟨if_pos ⟨h, h'⟩, h, h'⟩
    · exact .inr (.inr ⟨by rw [if_neg (fun h => h' h.2)]; decide, h, by omega⟩)
  · exact .inr (.inl ⟨by rw [if_neg (fun h' => h h'.1)]; decide, by omega⟩)
set_option maxRecDepth 100000 in
set_option maxHeartbeats 2000000 in
theorem words_any (t : Tr) (w : World) :
    Calls Try.prog 21 #[t.val] w fun e w' => e = .returned (.bool (wOK t)) ∧ Below w.heap.size w w' := by
  have hB := below_alloc w (.cells t.cells.toArray 30)
  have i0 := idx0 t
  have i1 := idx1 t
  have i2 := idx2 t
  obtain ⟨f, hf⟩ : ∃ f, wOK t = f := ⟨_, rfl⟩
  have h1 : elE t.p ≠ 0 → f = false := fun h => by rw [← hf]; unfold wOK; simp [h]
  have h2 : elE t.q ≠ 0 → f = false := fun h => by rw [← hf]; unfold wOK; simp [h]
  have h3 : elE t.r ≠ 0 → f = false := fun h => by rw [← hf]; unfold wOK; simp [h]
  have h4 : elE t.p = 0 → elE t.q = 0 → elE t.r = 0 → f = true := fun h h' h'' => by rw [← hf]; unfold wOK; simp [h, h', h'']
  rw [hf]
  have HB := Lib.hid hB
  clear hf hB
  unfold Tr.val
  rcases elE_cases t.p with ⟨a1, a2, a3⟩ | ⟨a1, a2⟩ | ⟨a1, a2, a3⟩
  · rcases elE_cases t.q with ⟨b1, b2, b3⟩ | ⟨b1, b2⟩ | ⟨b1, b2, b3⟩
    · rcases elE_cases t.r with ⟨c1, c2, c3⟩ | ⟨c1, c2⟩ | ⟨c1, c2, c3⟩
      · obtain rfl := h4 a1 b1 c1
        clear h1 h2 h3 h4 a1 b1 c1
        go_enter Try.func21, Try.ntmps21
        go_wp2_with fail
        refine wp_loop_rounds 4 ?_
        rw [rounds_succ]; go_wp2_with fail
        rw [rounds_succ]; go_wp2_with fail
        rw [rounds_succ]; go_wp2_with fail
        rw [rounds_succ]; go_wp2_with fail
        go_ret
        exact ⟨rfl, HB.out⟩
      · obtain rfl := h3 c1
        clear h1 h2 h3 h4 a1 b1 c1
        go_enter Try.func21, Try.ntmps21
        go_wp2_with fail
        refine wp_loop_rounds 3 ?_
        rw [rounds_succ]; go_wp2_with fail
        rw [rounds_succ]; go_wp2_with fail
        rw [rounds_succ]; go_wp2_with fail
        go_ret
        exact ⟨rfl, HB.out⟩
      · obtain rfl := h3 c1
        clear h1 h2 h3 h4 a1 b1 c1
        go_enter Try.func21, Try.ntmps21
        go_wp2_with fail
        refine wp_loop_rounds 3 ?_
        rw [rounds_succ]; go_wp2_with fail
        rw [rounds_succ]; go_wp2_with fail
        rw [rounds_succ]; go_wp2_with fail
        go_ret
        exact ⟨rfl, HB.out⟩
    all_goals
      obtain rfl := h2 b1
      clear h1 h2 h3 h4 a1 b1
      go_enter Try.func21, Try.ntmps21
      go_wp2_with fail
      refine wp_loop_rounds 2 ?_
      rw [rounds_succ]; go_wp2_with fail
      rw [rounds_succ]; go_wp2_with fail
      go_ret
      exact ⟨rfl, HB.out⟩
  all_goals
    obtain rfl := h1 a1
    clear h1 h2 h3 h4 a1
    go_enter Try.func21, Try.ntmps21
    go_wp2_with fail
    refine wp_loop_rounds 1 ?_
    rw [rounds_succ]; go_wp2_with fail
    go_ret
    exact ⟨rfl, HB.out⟩
end Go.Proofs.Ytlbnbginippjfaa
