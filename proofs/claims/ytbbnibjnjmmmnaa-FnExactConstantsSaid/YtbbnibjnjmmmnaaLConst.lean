/-
  The law on the program's constants.
-/
import Derived.Test.YtbbnibjnjmmmnaaProg
import Derived.Test.YtbbnibjnjmmmnaaMem
namespace Go.Proofs.Ytbbnibjnjmmmnaa
open Go.RowKit

set_option maxHeartbeats 1000000 in
theorem FnExactConstants_c (w : World) :
    Calls Try.prog 3 #[] w fun e w' => e = .returned (.bool true) ∧ Below w.heap.size w w' := by
  go_enter Try.func3, Try.ntmps3
  go_wp2
  go_ret
  exact ⟨rfl, Below.refl _ _⟩
end Go.Proofs.Ytbbnibjnjmmmnaa
