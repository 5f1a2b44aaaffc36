/-
  The contracts of the two functions that say whether a number lies in a range.
-/
import Derived.Test.YteoeojbeaehdpaaDoorProg
import Derived.Test.YteoeojbeaehdpaaDoorPMode
import Derived.Test.YteoeojbeaehdpaaDoorMem
namespace Go.Proofs.YteoeojbeaehdpaaDoor
open Go.RowKit

set_option maxHeartbeats 400000 in
theorem inRange_c (n lo hi : Int) (w : World) :
    Calls Tryd.prog 80 #[.int .i64 n, .int .i64 lo, .int .i64 hi] w fun e w' => e = .returned (.bool (inR n lo hi)) ∧ w = w' := by
  by_cases h : lo ≤ n
  · go_enter Tryd.func80, Tryd.ntmps80
    go_wp2
    go_ret
    exact ⟨ret_bool (by simp [inR, h]), rfl⟩
  · go_enter Tryd.func80, Tryd.ntmps80
    go_wp2
    go_ret
    exact ⟨ret_bool (by simp [inR]; omega), rfl⟩

set_option maxHeartbeats 400000 in
theorem within_c (n lo hi : Int) (w : World) :
    Calls Tryd.prog 82 #[.int .i64 n, .int .i64 lo, .int .i64 hi] w fun e w' => e = .returned (.bool (inR n lo hi)) ∧ w = w' := by
  by_cases h : lo ≤ n
  · go_enter Tryd.func82, Tryd.ntmps82
    go_wp2
    go_ret
    exact ⟨ret_bool (by simp [inR, h]), rfl⟩
  · go_enter Tryd.func82, Tryd.ntmps82
    go_wp2
    go_ret
    exact ⟨ret_bool (by simp [inR]; omega), rfl⟩

end Go.Proofs.YteoeojbeaehdpaaDoor
