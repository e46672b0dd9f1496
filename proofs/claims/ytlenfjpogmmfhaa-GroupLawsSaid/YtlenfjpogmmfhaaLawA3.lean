import Derived.Test.YtlenfjpogmmfhaaLawA2
namespace Go.Proofs.Ytlenfjpogmmfhaa
open Go.RowKit Fk

set_option maxRecDepth 100000 in
set_option maxHeartbeats 2000000 in
theorem groupLaws_walk (x y z : Int) (w : World) :
    Calls Try.prog 4 #[.int .i64 x, .int .i64 y, .int .i64 z] w fun e w' => e = .returned (.bool true) ∧ Below w.heap.size w w' := by
  have hB : Below w.heap.size w w := Below.refl _ _
  obtain ⟨a, hx⟩ : ∃ a, elV x = a := ⟨_, rfl⟩
  obtain ⟨b, hy⟩ : ∃ b, elV y = b := ⟨_, rfl⟩
  obtain ⟨c, hz⟩ : ∃ c, elV z = c := ⟨_, rfl⟩
  have ha : vld a = true := hx ▸ vld_elV x
  have hb : vld b = true := hy ▸ vld_elV y
  have hc : vld c = true := hz ▸ vld_elV z
  have q1 := vld_mul ha hb
  have q2 := mul_comm' hb ha
  have q3 := mul_assoc' ha hb hc
  have q4 := mul_one' ha
  have q5 := mul_inv' ha
  have q6 := mul_mul_inv ha hb
  have q7 := mul_pow' ha hb (-1)
  go_enter Try.func4, Try.ntmps4
  go_wp2_with (first | (go_at_call 13; refine (sane09 _).mono ?_; rintro e w1 ⟨rfl, hb⟩; replace hB := hB.trans (hb.mono hB.size); clear hb) | (go_at_call 20; refine (law_element _ _).mono ?_; rintro e w1 ⟨rfl, rfl⟩) | (go_at_call 21; refine (law_mulB _ _ _ _ (by simp)).mono ?_; rintro e w1 ⟨rfl, hb⟩; replace hB := hB.trans (hb.mono hB.size); clear hb) | (go_at_call 22; refine (law_pow _ _ _).mono ?_; rintro e w1 ⟨rfl, hb⟩; replace hB := hB.trans (hb.mono hB.size); clear hb) | (go_at_call 18; refine (valid_any _ _).mono ?_; rintro e w1 ⟨rfl, rfl⟩))
  go_ret
  exact ⟨rfl, hB⟩
end Go.Proofs.Ytlenfjpogmmfhaa
