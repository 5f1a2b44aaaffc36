/-
  The contracts of the functions that tell what is needed above a mode.
-/
import Derived.Test.YtfgcjdhcnalmmaaDoorMode
namespace Go.Proofs.YtfgcjdhcnalmmaaDoor
open Go.RowKit

set_option maxHeartbeats 400000 in
theorem impl_NeedAbove_c (m : Int) (w : World) :
    Calls Tryd.prog 61 #[.int .i64 m] w fun e w' => e = .returned (.int .i64 (needM m)) ∧ w = w' := by
  by_cases hm : modeB m = true
  · rcases modeB_cases hm with rfl | rfl | rfl | rfl | rfl | rfl <;>
      (clear hm; go_enter Tryd.func61, Tryd.ntmps61; go_wp2; go_ret; exact ⟨rfl, rfl⟩)
  · have hfin : needM m = -1 := by simp [needM, hm]
    have Hfin := Lib.hid hfin
    have hm' : ¬ (0 ≤ m ∧ m ≤ 5) := fun h => hm (modeB_iff.2 h)
    have e0 : (m == 0) = false := by rw [beq_eq_false_iff_ne]; omega
    have e1 : (m == 1) = false := by rw [beq_eq_false_iff_ne]; omega
    have e2 : (m == 2) = false := by rw [beq_eq_false_iff_ne]; omega
    have e3 : (m == 3) = false := by rw [beq_eq_false_iff_ne]; omega
    have e4 : (m == 4) = false := by rw [beq_eq_false_iff_ne]; omega
    have e5 : (m == 5) = false := by rw [beq_eq_false_iff_ne]; omega
    clear hfin hm hm'
    go_enter Tryd.func61, Tryd.ntmps61
    go_wp2
    go_ret
    exact ⟨ret_int Hfin.out.symm, rfl⟩

set_option maxHeartbeats 400000 in
theorem needAbove_c (m : Int) (hm : modeB m = true) (w : World) :
    Calls Tryd.prog 57 #[.int .i64 m] w fun e w' => e = .returned (.int .i64 (needI m)) ∧ w = w' := by
  rcases modeB_cases hm with rfl | rfl | rfl | rfl | rfl | rfl <;>
    (clear hm; go_enter Tryd.func57, Tryd.ntmps57; go_wp2; go_ret; exact ⟨rfl, rfl⟩)
end Go.Proofs.YtfgcjdhcnalmmaaDoor
