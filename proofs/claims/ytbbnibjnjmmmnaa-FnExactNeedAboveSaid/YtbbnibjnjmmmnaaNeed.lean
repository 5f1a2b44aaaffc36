/-
  The contracts of the functions that tell what is needed above a mode.
-/
import Derived.Test.YtbbnibjnjmmmnaaMode
namespace Go.Proofs.Ytbbnibjnjmmmnaa
open Go.RowKit

set_option maxHeartbeats 400000 in
theorem impl_NeedAbove_c (m : Int) (w : World) :
    Calls Try.prog 19 #[.int .i64 m] w fun e w' => e = .returned (.int .i64 (needM m)) ∧ w = w' := by
  by_cases hm : modeB m = true
  · rcases modeB_cases hm with rfl | rfl | rfl | rfl | rfl | rfl <;>
      (clear hm; go_enter Try.func19, Try.ntmps19; go_wp2; go_ret; exact ⟨rfl, rfl⟩)
  · have hfin : needM m = -1 := by simp [needM, hm]
    have Hfin := Lib.hid hfin
    have hm' : ¬ (0 ≤ m ∧ m ≤ 5) := fun h => hm (modeB_iff.2 h)
    have e0 : (m == 0) = false := by rw [beq_eq_false_iff_ne]; omega
    have e1 : (m == 1) = false := by rw [beq_eq_false_iff_ne]; omega
    have e2 : (m == 2) = false := by rw [beq_eq_false_iff_ne]; omega
    have e3 : (m == 3) = false := by rw [beq_eq_false_iff_ne]; omega
    have e4 : (m == 4) = false := by rw [beq_eq_false_iff_ne]; omega
    have e5 : (m == 5) = false := by rw [beq_eq_false_iff_ne]; omega
    clear hfin hm hm'
    go_enter Try.func19, Try.ntmps19
    go_wp2
    go_ret
    exact ⟨ret_int Hfin.out.symm, rfl⟩

set_option maxHeartbeats 400000 in
theorem needAbove_c (m : Int) (hm : modeB m = true) (w : World) :
    Calls Try.prog 54 #[.int .i64 m] w fun e w' => e = .returned (.int .i64 (needI m)) ∧ w = w' := by
  rcases modeB_cases hm with rfl | rfl | rfl | rfl | rfl | rfl <;>
    (clear hm; go_enter Try.func54, Try.ntmps54; go_wp2; go_ret; exact ⟨rfl, rfl⟩)

set_option maxHeartbeats 400000 in
theorem spec_NeedAbove_c (m : Int) (w : World) :
    Calls Try.prog 18 #[.int .i64 m] w fun e w' => e = .returned (.int .i64 (needM m)) ∧ w = w' := by
  by_cases hm : modeB m = true
  · have hfin : needM m = needI m := by simp [needM, hm]
    have Hfin := Lib.hid hfin
    clear hfin
    go_enter Try.func18, Try.ntmps18
    go_wp2_with (first | (go_at_call 53; refine (validMode_c _ _).mono ?_; rintro e w' ⟨rfl, rfl⟩) | (go_at_call 54; refine (needAbove_c _ hm _).mono ?_; rintro e w' ⟨rfl, rfl⟩))
    go_ret
    exact ⟨ret_int Hfin.out.symm, rfl⟩
  · rw [Bool.not_eq_true] at hm
    have hfin : needM m = -1 := by simp [needM, hm]
    have Hfin := Lib.hid hfin
    clear hfin
    go_enter Try.func18, Try.ntmps18
    go_wp2_with (go_at_call 53; refine (validMode_c _ _).mono ?_; rintro e w' ⟨rfl, rfl⟩)
    go_ret
    exact ⟨ret_int Hfin.out.symm, rfl⟩

set_option maxHeartbeats 400000 in
theorem FnExactNeedAbove_c (a : Int) (_ : (Lit.int .i64 a).wf = true) (w : World) :
    Calls Try.prog 4 #[.int .i64 a] w fun e w' => e = .returned (.bool true) ∧ Below w.heap.size w w' := by
  go_enter Try.func4, Try.ntmps4
  go_wp2_with (first | (go_at_call 18; refine (spec_NeedAbove_c _ _).mono ?_; rintro e w' ⟨rfl, rfl⟩) | (go_at_call 19; refine (impl_NeedAbove_c _ _).mono ?_; rintro e w' ⟨rfl, rfl⟩))
  go_ret
  exact ⟨rfl, Below.refl _ _⟩
end Go.Proofs.Ytbbnibjnjmmmnaa
