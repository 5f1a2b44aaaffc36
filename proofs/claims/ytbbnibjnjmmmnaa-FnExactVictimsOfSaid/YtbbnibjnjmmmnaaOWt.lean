/-
  How an argument that is a list of waits opens.
-/
import Derived.Test.YtbbnibjnjmmmnaaTWt
import Derived.Test.YtbbnibjnjmmmnaaOpenS
namespace Go.Proofs.Ytbbnibjnjmmmnaa
open Go.ChangeShapes Go.WideShapes Go.ChangeAt Go.RowKit Go.Deep

theorem open_waits {H : Type} {enc : TypeId × Value → H} {W : World} {r : Reach} {b0 : Nat} {v : Value} {d : DataW H} {p : List MemPlace}
    (hv : Value.okWide Try.prog W r b0 40 v) (h : DataW.Trod enc Try.prog W 0 (fun _ => true) true 40 v d p) :
    ∃ A c l, v = .slice A (l.length) c ∧ Rd wtE W W.heap.size A l ∧ (l.length ≤ c ∧ c ≤ maxLen) := by
  refine open_structs (E := wtE) (by kernel_rfl) Try.underlying40 Try.underlying70 (by kernel_rfl) (by kernel_rfl) rfl (fun n cell hf => ?_) hv h
  obtain ⟨u0, y0, e0, _, t0⟩ := hf 0 _ rfl
  obtain ⟨z0, q0, _, _⟩ := DataW.trod_int (k := .i64) Try.underlying3 t0
  obtain rfl : u0 = .int .i64 z0 := by simpa using q0
  obtain ⟨u1, y1, e1, _, t1⟩ := hf 1 _ rfl
  obtain ⟨z1, q1, _, _⟩ := DataW.trod_int (k := .i64) Try.underlying3 t1
  obtain rfl : u1 = .int .i64 z1 := by simpa using q1
  refine ⟨⟨z0, z1⟩, fun j v hj => ?_⟩
  match j, hj with
  | 0, hj => obtain rfl := Option.some.inj hj; exact e0
  | 1, hj => obtain rfl := Option.some.inj hj; exact e1
end Go.Proofs.Ytbbnibjnjmmmnaa
