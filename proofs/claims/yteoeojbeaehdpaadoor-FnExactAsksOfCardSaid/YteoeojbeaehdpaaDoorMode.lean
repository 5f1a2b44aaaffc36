/-
  The contracts of the mode functions, of the reference and of the program: what each call returns, the world left alone.
-/
import Derived.Test.YteoeojbeaehdpaaDoorProg
import Derived.Test.YteoeojbeaehdpaaDoorRange
namespace Go.Proofs.YteoeojbeaehdpaaDoor
open Go.RowKit

/-- The two tables lie in memory as the program's text lays them. -/
def JTab (w : World) : Prop := ∀ i, i < 36 → w.cell? ⟨1, i, none⟩ = some (.int .i64 (joinTab.getD i 0))
def TTab (w : World) : Prop := ∀ i, i < 36 → w.cell? ⟨0, i, none⟩ = some (.bool (togTab.getD i false))


set_option maxHeartbeats 400000 in
theorem isMode_c (m : Int) (w : World) :
    Calls Tryd.prog 83 #[.int .i64 m] w fun e w' => e = .returned (.bool (modeB m)) ∧ w = w' := by
  go_enter Tryd.func83, Tryd.ntmps83
  go_wp2_with (go_at_call 82; refine (within_c _ _ _ _).mono ?_; rintro e w' ⟨rfl, rfl⟩)
  go_ret
  exact ⟨rfl, rfl⟩

set_option maxHeartbeats 400000 in
theorem goTogether_c (a b : Int) (ha : modeB a = true) (hb : modeB b = true) (w : World) :
    Calls Tryd.prog 81 #[.int .i64 a, .int .i64 b] w fun e w' => e = .returned (.bool (togI a b)) ∧ w = w' := by
  rcases modeB_cases ha with rfl | rfl | rfl | rfl | rfl | rfl <;> rcases modeB_cases hb with rfl | rfl | rfl | rfl | rfl | rfl <;>
    (clear ha hb; go_enter Tryd.func81, Tryd.ntmps81; go_wp2; go_ret; exact ⟨rfl, rfl⟩)

set_option maxHeartbeats 400000 in
theorem joined_c (a b : Int) (ha : modeB a = true) (hb : modeB b = true) (w : World) :
    Calls Tryd.prog 66 #[.int .i64 a, .int .i64 b] w fun e w' => e = .returned (.int .i64 (joinI a b)) ∧ w = w' := by
  rcases modeB_cases ha with rfl | rfl | rfl | rfl | rfl | rfl <;> rcases modeB_cases hb with rfl | rfl | rfl | rfl | rfl | rfl <;>
    (clear ha hb; go_enter Tryd.func66, Tryd.ntmps66; go_wp2; go_ret; exact ⟨rfl, rfl⟩)

end Go.Proofs.YteoeojbeaehdpaaDoor
