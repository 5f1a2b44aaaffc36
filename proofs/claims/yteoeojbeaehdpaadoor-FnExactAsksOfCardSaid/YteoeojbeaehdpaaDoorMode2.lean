/-
  The contracts of the exported mode functions, where the program's two tables lie as its text lays them.
-/
import Derived.Test.YteoeojbeaehdpaaDoorMode
namespace Go.Proofs.YteoeojbeaehdpaaDoor
open Go.RowKit

theorem nat_of_mode {a : Int} (ha : modeB a = true) : ∃ i : Nat, i < 6 ∧ a = i :=
  ⟨a.toNat, by have := modeB_iff.1 ha; omega, by have := modeB_iff.1 ha; omega⟩

set_option maxHeartbeats 400000 in
theorem impl_JoinModes_c (a b : Int) (w : World) (ht : JTab w) :
    Calls Tryd.prog 67 #[.int .i64 a, .int .i64 b] w fun e w' => e = .returned (.int .i64 (joinM a b)) ∧ w = w' := by
  by_cases ha : modeB a = true
  · by_cases hb : modeB b = true
    · obtain ⟨i, hi, rfl⟩ := nat_of_mode ha
      obtain ⟨j, hj, rfl⟩ := nat_of_mode hb
      have hc : w.cell? ⟨1, i * 6 + j, none⟩ = some (.int .i64 (joinTab.getD (i * 6 + j) 0)) := ht _ (by omega)
      have hfin : joinM i j = joinTab.getD (i * 6 + j) 0 := by simp [joinM, ha, hb, joinI]
      have Hfin := Lib.hid hfin
      clear hfin ht
      go_enter Tryd.func67, Tryd.ntmps67
      go_wp2_with (go_at_call 83; refine (isMode_c _ _).mono ?_; rintro e w' ⟨rfl, rfl⟩)
      go_ret
      exact ⟨ret_int Hfin.out.symm, rfl⟩
    · rw [Bool.not_eq_true] at hb
      have hfin : joinM a b = -1 := by simp [joinM, hb]
      have Hfin := Lib.hid hfin
      clear hfin ht
      go_enter Tryd.func67, Tryd.ntmps67
      go_wp2_with (go_at_call 83; refine (isMode_c _ _).mono ?_; rintro e w' ⟨rfl, rfl⟩)
      go_ret
      exact ⟨ret_int Hfin.out.symm, rfl⟩
  · rw [Bool.not_eq_true] at ha
    have hfin : joinM a b = -1 := by simp [joinM, ha]
    have Hfin := Lib.hid hfin
    clear hfin ht
    go_enter Tryd.func67, Tryd.ntmps67
    go_wp2_with (go_at_call 83; refine (isMode_c _ _).mono ?_; rintro e w' ⟨rfl, rfl⟩)
    go_ret
    exact ⟨ret_int Hfin.out.symm, rfl⟩

set_option maxHeartbeats 400000 in
theorem impl_GoTogether_c (a b : Int) (w : World) (ht : TTab w) :
    Calls Tryd.prog 60 #[.int .i64 a, .int .i64 b] w fun e w' => e = .returned (.bool (togM a b)) ∧ w = w' := by
  by_cases ha : modeB a = true
  · by_cases hb : modeB b = true
    · obtain ⟨i, hi, rfl⟩ := nat_of_mode ha
      obtain ⟨j, hj, rfl⟩ := nat_of_mode hb
      have hc : w.cell? ⟨0, i * 6 + j, none⟩ = some (.bool (togTab.getD (i * 6 + j) false)) := ht _ (by omega)
      have hfin : togM i j = togTab.getD (i * 6 + j) false := by simp [togM, ha, hb, togI]
      have Hfin := Lib.hid hfin
      clear hfin ht
      go_enter Tryd.func60, Tryd.ntmps60
      go_wp2_with (go_at_call 83; refine (isMode_c _ _).mono ?_; rintro e w' ⟨rfl, rfl⟩)
      go_ret
      exact ⟨ret_bool Hfin.out.symm, rfl⟩
    · rw [Bool.not_eq_true] at hb
      have hfin : togM a b = false := by simp [togM, hb]
      have Hfin := Lib.hid hfin
      clear hfin ht
      go_enter Tryd.func60, Tryd.ntmps60
      go_wp2_with (go_at_call 83; refine (isMode_c _ _).mono ?_; rintro e w' ⟨rfl, rfl⟩)
      go_ret
      exact ⟨ret_bool Hfin.out.symm, rfl⟩
  · rw [Bool.not_eq_true] at ha
    have hfin : togM a b = false := by simp [togM, ha]
    have Hfin := Lib.hid hfin
    clear hfin ht
    go_enter Tryd.func60, Tryd.ntmps60
    go_wp2_with (go_at_call 83; refine (isMode_c _ _).mono ?_; rintro e w' ⟨rfl, rfl⟩)
    go_ret
    exact ⟨ret_bool Hfin.out.symm, rfl⟩
end Go.Proofs.YteoeojbeaehdpaaDoor
