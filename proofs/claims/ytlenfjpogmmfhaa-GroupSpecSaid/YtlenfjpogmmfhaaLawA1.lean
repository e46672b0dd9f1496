import Derived.Test.YtlenfjpogmmfhaaSane09
import Derived.Test.YtlenfjpogmmfhaaGroupRef
import Derived.Test.YtlenfjpogmmfhaaPost
namespace Go.Proofs.Ytlenfjpogmmfhaa
open Go.RowKit Fk

set_option maxRecDepth 100000 in
set_option maxHeartbeats 1000000 in
theorem groupSpec_walk (a b n : Int) (w : World) :
    Calls Try.prog 3 #[.int .i64 a, .int .i64 b, .int .i64 n] w fun e w' => e = .returned (.bool true) ∧ Below w.heap.size w w' := by
  have hB : Below w.heap.size w w := Below.refl _ _
  go_enter Try.func3, Try.ntmps3
  go_wp2_with (first | (go_at_call 13; refine (sane09 _).mono ?_; rintro e w1 ⟨rfl, hb⟩; replace hB := hB.trans (hb.mono hB.size); clear hb) | (go_at_call 16; refine (pow_any _ _ _).mono ?_; rintro e w1 ⟨rfl, hb⟩; replace hB := hB.trans (hb.mono hB.size); clear hb) | (go_at_call 14; refine (mul_any _ _ _).mono ?_; rintro e w1 ⟨rfl, rfl⟩) | (go_at_call 18; refine (valid_any _ _).mono ?_; rintro e w1 ⟨rfl, rfl⟩) | (go_at_call 17; refine (refpow_any _ _ _).mono ?_; rintro e w1 ⟨rfl, rfl⟩) | (go_at_call 15; refine (refmul_any _ _ _).mono ?_; rintro e w1 ⟨rfl, rfl⟩) | (go_at_call 19; refine (refvalid_any _ _).mono ?_; rintro e w1 ⟨rfl, rfl⟩))
  go_ret
  exact ⟨rfl, hB⟩
end Go.Proofs.Ytlenfjpogmmfhaa
