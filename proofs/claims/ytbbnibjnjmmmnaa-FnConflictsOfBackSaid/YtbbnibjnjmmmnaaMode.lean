/-
  The contracts of the mode functions, of the reference and of the program: what each call returns, the world left alone.
-/
import Derived.Test.YtbbnibjnjmmmnaaProg
import Derived.Test.YtbbnibjnjmmmnaaRange
namespace Go.Proofs.Ytbbnibjnjmmmnaa
open Go.RowKit


set_option maxHeartbeats 400000 in
theorem validMode_c (m : Int) (w : World) :
    Calls Try.prog 53 #[.int .i64 m] w fun e w' => e = .returned (.bool (modeB m)) ∧ w = w' := by
  go_enter Try.func53, Try.ntmps53
  go_wp2_with (go_at_call 78; refine (inRange_c _ _ _ _).mono ?_; rintro e w' ⟨rfl, rfl⟩)
  go_ret
  exact ⟨rfl, rfl⟩




end Go.Proofs.Ytbbnibjnjmmmnaa
