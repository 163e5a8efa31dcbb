/- The law's 'same': are two answers the same? -/
import Derived.Test.YtebhojbllhjkeaaGaussRefSum
namespace Go.Proofs.Ytebhojbllhjkeaa
open Go.RowKit
set_option linter.all false

set_option maxRecDepth 10000 in
set_option maxHeartbeats 800000 in
theorem same_self (a b : Int) (is : Bool) (w : World) :
    Calls Try.prog 43 #[numV a b, .bool is, numV a b, .bool is] w fun e w' => e = .returned (.bool true) ∧ Below w.heap.size w w' := by
  go_enter Try.func43, Try.ntmps43
  go_wp2
  go_ret
  exact ⟨by simp, below_two _ _ _⟩
end Go.Proofs.Ytebhojbllhjkeaa
