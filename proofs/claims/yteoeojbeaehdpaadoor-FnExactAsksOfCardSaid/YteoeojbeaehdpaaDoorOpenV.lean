/-
  How two named variables open.
-/
import Derived.Test.YteoeojbeaehdpaaDoorFrame
namespace Go.Proofs.YteoeojbeaehdpaaDoor
open Go.ChangeShapes Go.WideShapes Go.ChangeAt Go.RowKit

theorem trodVars_len2 {H : Type} {enc : TypeId × Value → H} {P : Program} {w : World} {spare : Nat → Bool} {n0 n1 : String} {gs : List (DataW H)} {ps : List MemPlace} (h : DataW.TrodVars enc P w spare [n0, n1] gs ps) : ∃ d0 d1, gs = [d0, d1] := by
  obtain ⟨_, _, _, _, d0, _, _, _, _, _, d1, _, rfl, _⟩ := trodVars_two h
  exact ⟨d0, d1, rfl⟩
end Go.Proofs.YteoeojbeaehdpaaDoor
