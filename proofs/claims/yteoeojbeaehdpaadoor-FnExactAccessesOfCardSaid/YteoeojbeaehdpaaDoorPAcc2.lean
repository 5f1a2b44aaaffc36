/-
  Plain facts on the accesses of a schedule.
-/
import Derived.Test.YteoeojbeaehdpaaDoorPStp
import Derived.Test.YteoeojbeaehdpaaDoorTAcc
namespace Go.Proofs.YteoeojbeaehdpaaDoor
def accOf (s : Stp) : Acc := ⟨s.who, s.node, s.mode == 5⟩
def accL (r : List Stp) : List Acc := (r.filter fun s => !s.free).map accOf
noncomputable def accsF (r : List Stp) : List Acc := if stpOk r then accL r else []
theorem accL_yes {r : List Stp} {k : Nat} (hk : k < r.length) (h : r[k].free = false) : accL (r.take (k + 1)) = accL (r.take k) ++ [accOf r[k]] := by
  rw [accL, List.take_succ_eq_append_getElem hk, List.filter_append, List.map_append]; simp [accL, h]
theorem accL_no {r : List Stp} {k : Nat} (hk : k < r.length) (h : r[k].free = true) : accL (r.take (k + 1)) = accL (r.take k) := by
  rw [accL, List.take_succ_eq_append_getElem hk, List.filter_append, List.map_append]; simp [accL, h]
theorem accL_len (r : List Stp) (k : Nat) : (accL (r.take k)).length ≤ r.length := by
  rw [accL, List.length_map]
  exact Nat.le_trans (List.length_filter_le _ _) (List.length_take_le' _ _)
theorem accL_len2 (r : List Stp) : (accL r).length ≤ r.length := by
  rw [accL, List.length_map]
  exact List.length_filter_le _ _
end Go.Proofs.YteoeojbeaehdpaaDoor
