/-
  The contracts of the mode functions, of the reference and of the program: what each call returns, the world left alone.
-/
import Derived.Test.YtbfaaolbdgpnoaaDoorProg
import Derived.Test.YtbfaaolbdgpnoaaDoorPMode
import Derived.WalkKit
import Derived.WalkSpells
import Derived.WalkLawsBesides
import Derived.Lib.Hide
namespace Go.Proofs.YtbfaaolbdgpnoaaDoor
open Go.RowKit

/-- The two tables lie in memory as the program's text lays them. -/
def JTab (w : World) : Prop := ∀ i, i < 36 → w.cell? ⟨0, i, none⟩ = some (.int .i64 (joinTab.getD i 0))
def TTab (w : World) : Prop := ∀ i, i < 36 → w.cell? ⟨1, i, none⟩ = some (.bool (togTab.getD i false))

theorem ret_bool {a b : Bool} (h : a = b) : Ending.returned (.bool a) = .returned (.bool b) := by rw [h]
theorem ret_int {k : IntKind} {a b : Int} (h : a = b) : Ending.returned (.int k a) = .returned (.int k b) := by rw [h]

set_option maxHeartbeats 400000 in
theorem inRange_c (n lo hi : Int) (w : World) :
    Calls Tryd.prog 38 #[.int .i64 n, .int .i64 lo, .int .i64 hi] w fun e w' => e = .returned (.bool (inR n lo hi)) ∧ w = w' := by
  by_cases h : lo ≤ n
  · go_enter Tryd.func38, Tryd.ntmps38
    go_wp2
    go_ret
    exact ⟨ret_bool (by simp [inR, h]), rfl⟩
  · go_enter Tryd.func38, Tryd.ntmps38
    go_wp2
    go_ret
    exact ⟨ret_bool (by simp [inR]; omega), rfl⟩

set_option maxHeartbeats 400000 in
theorem within_c (n lo hi : Int) (w : World) :
    Calls Tryd.prog 39 #[.int .i64 n, .int .i64 lo, .int .i64 hi] w fun e w' => e = .returned (.bool (inR n lo hi)) ∧ w = w' := by
  by_cases h : lo ≤ n
  · go_enter Tryd.func39, Tryd.ntmps39
    go_wp2
    go_ret
    exact ⟨ret_bool (by simp [inR, h]), rfl⟩
  · go_enter Tryd.func39, Tryd.ntmps39
    go_wp2
    go_ret
    exact ⟨ret_bool (by simp [inR]; omega), rfl⟩

set_option maxHeartbeats 400000 in
theorem validMode_c (m : Int) (w : World) :
    Calls Tryd.prog 31 #[.int .i64 m] w fun e w' => e = .returned (.bool (modeB m)) ∧ w = w' := by
  go_enter Tryd.func31, Tryd.ntmps31
  go_wp2_with (go_at_call 38; refine (inRange_c _ _ _ _).mono ?_; rintro e w' ⟨rfl, rfl⟩)
  go_ret
  exact ⟨rfl, rfl⟩

set_option maxHeartbeats 400000 in
theorem isMode_c (m : Int) (w : World) :
    Calls Tryd.prog 33 #[.int .i64 m] w fun e w' => e = .returned (.bool (modeB m)) ∧ w = w' := by
  go_enter Tryd.func33, Tryd.ntmps33
  go_wp2_with (go_at_call 39; refine (within_c _ _ _ _).mono ?_; rintro e w' ⟨rfl, rfl⟩)
  go_ret
  exact ⟨rfl, rfl⟩

set_option maxHeartbeats 400000 in
theorem goTogether_c (a b : Int) (ha : modeB a = true) (hb : modeB b = true) (w : World) :
    Calls Tryd.prog 34 #[.int .i64 a, .int .i64 b] w fun e w' => e = .returned (.bool (togI a b)) ∧ w = w' := by
  rcases modeB_cases ha with rfl | rfl | rfl | rfl | rfl | rfl <;> rcases modeB_cases hb with rfl | rfl | rfl | rfl | rfl | rfl <;>
    (clear ha hb; go_enter Tryd.func34, Tryd.ntmps34; go_wp2; go_ret; exact ⟨rfl, rfl⟩)

set_option maxHeartbeats 400000 in
theorem joined_c (a b : Int) (ha : modeB a = true) (hb : modeB b = true) (w : World) :
    Calls Tryd.prog 32 #[.int .i64 a, .int .i64 b] w fun e w' => e = .returned (.int .i64 (joinI a b)) ∧ w = w' := by
  rcases modeB_cases ha with rfl | rfl | rfl | rfl | rfl | rfl <;> rcases modeB_cases hb with rfl | rfl | rfl | rfl | rfl | rfl <;>
    (clear ha hb; go_enter Tryd.func32, Tryd.ntmps32; go_wp2; go_ret; exact ⟨rfl, rfl⟩)
end Go.Proofs.YtbfaaolbdgpnoaaDoor
