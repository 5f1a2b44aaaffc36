/-
  The program's two tables stay as they lie; the mode functions in the form that a quiet region takes.
-/
import Derived.Test.YteoeojbeaehdpaaDoorMode2
import Derived.Test.YteoeojbeaehdpaaDoorRangeQ
import Derived.Test.YteoeojbeaehdpaaDoorDr
namespace Go.Proofs.YteoeojbeaehdpaaDoor
open Go.RowKit
theorem JTab.below {w w' : World} (h : JTab w) (hb : Below w.heap.size w w') : JTab w' := fun i hi => by
  have := h i hi
  rw [hb.cell (p := ⟨1, i, none⟩) (cell_lt this)]; exact this
theorem TTab.below {w w' : World} (h : TTab w) (hb : Below w.heap.size w w') : TTab w' := fun i hi => by
  have := h i hi
  rw [hb.cell (p := ⟨0, i, none⟩) (cell_lt this)]; exact this
theorem goTogether_q (a b : Int) (ha : modeB a = true) (hb : modeB b = true) (v : Bool) (h : togI a b = v) (w : World) (k : Nat) : Calls Tryd.prog 81 #[.int .i64 a, .int .i64 b] (w.drewN k) fun e w' => e = .returned (.bool v) ∧ ∃ m, w' = w.drewN m := by
  subst h; exact quiet_left (goTogether_c a b ha hb _)
end Go.Proofs.YteoeojbeaehdpaaDoor
