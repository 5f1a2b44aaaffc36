/-
  How an argument that is a list of locks opens.
-/
import Derived.Test.YteoeojbeaehdpaaDoorTLk
import Derived.Test.YteoeojbeaehdpaaDoorOpenS
namespace Go.Proofs.YteoeojbeaehdpaaDoor
open Go.ChangeShapes Go.WideShapes Go.ChangeAt Go.RowKit Go.Deep

set_option maxRecDepth 100000 in
theorem open_locks {H : Type} {enc : TypeId × Value → H} {W : World} {r : Reach} {b0 : Nat} {v : Value} {d : DataW H} {p : List MemPlace}
    (hv : Value.okWide Tryd.prog W r b0 22 v) (h : DataW.Trod enc Tryd.prog W 0 (fun _ => true) true 22 v d p) :
    ∃ A c l, v = .slice A (l.length) c ∧ Rd lkE W W.heap.size A l ∧ (l.length ≤ c ∧ c ≤ maxLen) := by
  refine open_structs (E := lkE) (by kernel_rfl) Tryd.underlying22 Tryd.underlying66 (by kernel_rfl) (by kernel_rfl) rfl (fun n cell hf => ?_) hv h
  obtain ⟨u0, y0, e0, _, t0⟩ := hf 0 _ rfl
  obtain ⟨z0, q0, _, _⟩ := DataW.trod_int (k := .i64) Tryd.underlying3 t0
  obtain rfl : u0 = .int .i64 z0 := by simpa using q0
  obtain ⟨u1, y1, e1, _, t1⟩ := hf 1 _ rfl
  obtain ⟨z1, q1, _, _⟩ := DataW.trod_int (k := .i64) Tryd.underlying3 t1
  obtain rfl : u1 = .int .i64 z1 := by simpa using q1
  obtain ⟨u2, y2, e2, _, t2⟩ := hf 2 _ rfl
  obtain ⟨z2, q2, _, _⟩ := DataW.trod_int (k := .i64) Tryd.underlying3 t2
  obtain rfl : u2 = .int .i64 z2 := by simpa using q2
  refine ⟨⟨z0, z1, z2⟩, fun j v hj => ?_⟩
  match j, hj with
  | 0, hj => obtain rfl := Option.some.inj hj; exact e0
  | 1, hj => obtain rfl := Option.some.inj hj; exact e1
  | 2, hj => obtain rfl := Option.some.inj hj; exact e2
end Go.Proofs.YteoeojbeaehdpaaDoor
