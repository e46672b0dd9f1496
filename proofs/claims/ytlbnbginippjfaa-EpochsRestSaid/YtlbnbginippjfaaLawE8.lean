import Derived.Test.YtlbnbginippjfaaLawE7
import Derived.Test.YtlbnbginippjfaaOpenG
import Derived.Test.YtlbnbginippjfaaElO
namespace Go.Proofs.Ytlbnbginippjfaa
open Go.RowKit Fk
theorem epochsRest_walk (l : List Int) (v : Value) (t r : Tr) (n : Int) (w : World) (h : SlI w w.heap.size v l) (_ : ∀ i, i < l.length → wfI (l.getD i default)) (_ : wfT t) (_ : wfT r) (hn : (Lit.int .u8 n).wf = true) :
    Calls Try.prog 10 #[v, t.val, r.val, .int .u8 n] w fun e w' => e = .returned (.bool true) ∧ Below w.heap.size w w' := by
  obtain ⟨_, A, c, rfl, _⟩ := id h
  by_cases hl : 1 ≤ l.length ∧ l.length ≤ 6
  · exact rest_main l A c t r n w h hl.1 hl.2 (bounds_u8 hn)
  · exact rest_few l A c t r n w hl
end Go.Proofs.Ytlbnbginippjfaa
