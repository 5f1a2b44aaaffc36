/-
  NARROWER THAN 'FOR EVERY INPUT', by the rows' own cells (each row's printed sentence says how): FnExactValidTable: laid · FnExactHeldMode: laid · FnExactLockBlockers: laid · FnExactTakeLock: laid · FnExactFreeLocks: laid · FnExactAsksOf: laid · FnExactValidSteps: laid · FnExactTableAfter: laid · FnExactIsTwoPhase: laid · FnExactLockPoint: laid · FnExactLockPointOrder: laid · FnExactAccessesOf: laid.
  DERIVED. THE GIVEN ROWS OF THIS SEAT. 12 by the template 'for every input the law returns true; each argument reads behind the call as it read before'; 0 by the template 'total and deterministic' (their statements: YteoeojbeaehdpaaDoorTotals.lean).
  GIVEN WITH THE SEED: the statements are not yours to turn. If you find one false, say at which input.
  Laid BY PROGRAM, IN A SANDBOX (cutbox-rows.mjs): the forced cells as the released guide's own fill.sh prints them over the translation 08549d814cb483bf… (all of the seat's roots in one cut). By AI agents, Wed Nov 11 2026. No macro, syntax, notation, axiom, sorry.
-/
import Derived.Test.YteoeojbeaehdpaaDoorChecked
import GoSem.Claim
import GoSem.ClaimJoined
import GoSem.ClaimMapViews
import Derived.JoinedTies
import Derived.KernelRfl
namespace Go.Proofs.YteoeojbeaehdpaaDoor
/- THE CELL 'sum', in the pinned program and in every row, IS THE sha256 OF THE DUMP (.gsa) THAT YteoeojbeaehdpaaDoorProg.lean LOADS. Nothing in Lean hashes anything: it is a label: what it is worth is what the hold of that sum in a sandbox is worth. -/
noncomputable def Tryd.pinned : Pinned := { name := "yteoeojbeaehdpaadoor", sum := "08549d814cb483bf5b67e8091fde0f71bb179cb80a1efb909a22255c1504c123", checked := Tryd.checked }
namespace Rows
def none {H : Type} : Left H := { results := [], args := [] }

/- WHAT THE LISTED PACKAGE-LEVEL VARIABLES READ AS WHEN THE CALL BEGINS. Each datum BY PROGRAM (the guide's laid-datum.mjs) off the statement by which the dump's own 'gosem.cut.vars' lays the variable. In a bare row this is a premise. The card (YteoeojbeaehdpaaDoorCards.lean) ties it to the program's text. -/
def laid_loop_example_treelocks_impl_together {H : Type} : DataW H := .agg [.agg [.lit (.bool true), .lit (.bool true), .lit (.bool true), .lit (.bool true), .lit (.bool true), .lit (.bool true)], .agg [.lit (.bool true), .lit (.bool true), .lit (.bool true), .lit (.bool true), .lit (.bool true), .lit (.bool false)], .agg [.lit (.bool true), .lit (.bool true), .lit (.bool true), .lit (.bool false), .lit (.bool false), .lit (.bool false)], .agg [.lit (.bool true), .lit (.bool true), .lit (.bool false), .lit (.bool true), .lit (.bool false), .lit (.bool false)], .agg [.lit (.bool true), .lit (.bool true), .lit (.bool false), .lit (.bool false), .lit (.bool false), .lit (.bool false)], .agg [.lit (.bool true), .lit (.bool false), .lit (.bool false), .lit (.bool false), .lit (.bool false), .lit (.bool false)]]
def laid_loop_example_treelocks_impl_joined {H : Type} : DataW H := .agg [.agg [.lit (.int .i64 0), .lit (.int .i64 1), .lit (.int .i64 2), .lit (.int .i64 3), .lit (.int .i64 4), .lit (.int .i64 5)], .agg [.lit (.int .i64 1), .lit (.int .i64 1), .lit (.int .i64 2), .lit (.int .i64 3), .lit (.int .i64 4), .lit (.int .i64 5)], .agg [.lit (.int .i64 2), .lit (.int .i64 2), .lit (.int .i64 2), .lit (.int .i64 4), .lit (.int .i64 4), .lit (.int .i64 5)], .agg [.lit (.int .i64 3), .lit (.int .i64 3), .lit (.int .i64 4), .lit (.int .i64 3), .lit (.int .i64 4), .lit (.int .i64 5)], .agg [.lit (.int .i64 4), .lit (.int .i64 4), .lit (.int .i64 4), .lit (.int .i64 4), .lit (.int .i64 4), .lit (.int .i64 5)], .agg [.lit (.int .i64 5), .lit (.int .i64 5), .lit (.int .i64 5), .lit (.int .i64 5), .lit (.int .i64 5), .lit (.int .i64 5)]]

/-- 'laws.FnExactValidTable': WHATEVER THE INPUT: true; the input reads as it did. -/
def fnExactValidTableSpec : ChangeSpec := { name := "fnExactValidTable", vars := ["loop.example/treelocks/impl.together"], fn := fun _ => fun
  | [d, g1] => { results := [.lit (.bool true)], args := [d], vars := [g1] }
  | _ => none }
def fnExactValidTableRow : OpenClaim := { program := "yteoeojbeaehdpaadoor", sum := "08549d814cb483bf5b67e8091fde0f71bb179cb80a1efb909a22255c1504c123", func := "loop.example/treelocks/laws.FnExactValidTable", spec := "fnExactValidTable", named := ["loop.example/treelocks/impl.together"], apart := false, laid := [("loop.example/treelocks/impl.together", laid_loop_example_treelocks_impl_together)] }
def FnExactValidTableSaid : Prop := fnExactValidTableRow.holds Tryd.pinned (OpenSpec.ofChange fnExactValidTableSpec)

/-- ITS FALSE NEIGHBOUR: 'it returns false'. Refute it at one input. -/
def fnExactValidTableWrong : ChangeSpec := { name := "fnExactValidTable", vars := ["loop.example/treelocks/impl.together"], fn := fun _ => fun
  | [d, g1] => { results := [.lit (.bool false)], args := [d], vars := [g1] }
  | _ => none }
def FnExactValidTableWrongFalsely : Prop := fnExactValidTableRow.holds Tryd.pinned (OpenSpec.ofChange fnExactValidTableWrong)

/-- 'laws.FnExactHeldMode': WHATEVER THE INPUT: true; the input reads as it did. -/
def fnExactHeldModeSpec : ChangeSpec := { name := "fnExactHeldMode", vars := ["loop.example/treelocks/impl.together"], fn := fun _ => fun
  | [d1, d2, d3, g1] => { results := [.lit (.bool true)], args := [d1, d2, d3], vars := [g1] }
  | _ => none }
def fnExactHeldModeRow : OpenClaim := { program := "yteoeojbeaehdpaadoor", sum := "08549d814cb483bf5b67e8091fde0f71bb179cb80a1efb909a22255c1504c123", func := "loop.example/treelocks/laws.FnExactHeldMode", spec := "fnExactHeldMode", unfollowed := true, recurses := true, named := ["loop.example/treelocks/impl.together"], apart := false, laid := [("loop.example/treelocks/impl.together", laid_loop_example_treelocks_impl_together)] }
def FnExactHeldModeSaid : Prop := fnExactHeldModeRow.holds Tryd.pinned (OpenSpec.ofChange fnExactHeldModeSpec)

/-- ITS FALSE NEIGHBOUR: 'it returns false'. Refute it at one input. -/
def fnExactHeldModeWrong : ChangeSpec := { name := "fnExactHeldMode", vars := ["loop.example/treelocks/impl.together"], fn := fun _ => fun
  | [d1, d2, d3, g1] => { results := [.lit (.bool false)], args := [d1, d2, d3], vars := [g1] }
  | _ => none }
def FnExactHeldModeWrongFalsely : Prop := fnExactHeldModeRow.holds Tryd.pinned (OpenSpec.ofChange fnExactHeldModeWrong)

/-- 'laws.FnExactLockBlockers': WHATEVER THE INPUT: true; the input reads as it did. -/
def fnExactLockBlockersSpec : ChangeSpec := { name := "fnExactLockBlockers", vars := ["loop.example/treelocks/impl.together", "loop.example/treelocks/impl.joined"], fn := fun _ => fun
  | [d1, d2, d3, d4, g1, g2] => { results := [.lit (.bool true)], args := [d1, d2, d3, d4], vars := [g1, g2] }
  | _ => none }
def fnExactLockBlockersRow : OpenClaim := { program := "yteoeojbeaehdpaadoor", sum := "08549d814cb483bf5b67e8091fde0f71bb179cb80a1efb909a22255c1504c123", func := "loop.example/treelocks/laws.FnExactLockBlockers", spec := "fnExactLockBlockers", unfollowed := true, recurses := true, named := ["loop.example/treelocks/impl.together", "loop.example/treelocks/impl.joined"], apart := false, laid := [("loop.example/treelocks/impl.together", laid_loop_example_treelocks_impl_together), ("loop.example/treelocks/impl.joined", laid_loop_example_treelocks_impl_joined)] }
def FnExactLockBlockersSaid : Prop := fnExactLockBlockersRow.holds Tryd.pinned (OpenSpec.ofChange fnExactLockBlockersSpec)

/-- ITS FALSE NEIGHBOUR: 'it returns false'. Refute it at one input. -/
def fnExactLockBlockersWrong : ChangeSpec := { name := "fnExactLockBlockers", vars := ["loop.example/treelocks/impl.together", "loop.example/treelocks/impl.joined"], fn := fun _ => fun
  | [d1, d2, d3, d4, g1, g2] => { results := [.lit (.bool false)], args := [d1, d2, d3, d4], vars := [g1, g2] }
  | _ => none }
def FnExactLockBlockersWrongFalsely : Prop := fnExactLockBlockersRow.holds Tryd.pinned (OpenSpec.ofChange fnExactLockBlockersWrong)

/-- 'laws.FnExactTakeLock': WHATEVER THE INPUT: true; the input reads as it did. -/
def fnExactTakeLockSpec : ChangeSpec := { name := "fnExactTakeLock", vars := ["loop.example/treelocks/impl.together", "loop.example/treelocks/impl.joined"], fn := fun _ => fun
  | [d1, d2, d3, d4, g1, g2] => { results := [.lit (.bool true)], args := [d1, d2, d3, d4], vars := [g1, g2] }
  | _ => none }
def fnExactTakeLockRow : OpenClaim := { program := "yteoeojbeaehdpaadoor", sum := "08549d814cb483bf5b67e8091fde0f71bb179cb80a1efb909a22255c1504c123", func := "loop.example/treelocks/laws.FnExactTakeLock", spec := "fnExactTakeLock", unfollowed := true, recurses := true, named := ["loop.example/treelocks/impl.together", "loop.example/treelocks/impl.joined"], apart := false, laid := [("loop.example/treelocks/impl.together", laid_loop_example_treelocks_impl_together), ("loop.example/treelocks/impl.joined", laid_loop_example_treelocks_impl_joined)] }
def FnExactTakeLockSaid : Prop := fnExactTakeLockRow.holds Tryd.pinned (OpenSpec.ofChange fnExactTakeLockSpec)

/-- ITS FALSE NEIGHBOUR: 'it returns false'. Refute it at one input. -/
def fnExactTakeLockWrong : ChangeSpec := { name := "fnExactTakeLock", vars := ["loop.example/treelocks/impl.together", "loop.example/treelocks/impl.joined"], fn := fun _ => fun
  | [d1, d2, d3, d4, g1, g2] => { results := [.lit (.bool false)], args := [d1, d2, d3, d4], vars := [g1, g2] }
  | _ => none }
def FnExactTakeLockWrongFalsely : Prop := fnExactTakeLockRow.holds Tryd.pinned (OpenSpec.ofChange fnExactTakeLockWrong)

/-- 'laws.FnExactFreeLocks': WHATEVER THE INPUT: true; the input reads as it did. -/
def fnExactFreeLocksSpec : ChangeSpec := { name := "fnExactFreeLocks", vars := ["loop.example/treelocks/impl.together"], fn := fun _ => fun
  | [d1, d2, g1] => { results := [.lit (.bool true)], args := [d1, d2], vars := [g1] }
  | _ => none }
def fnExactFreeLocksRow : OpenClaim := { program := "yteoeojbeaehdpaadoor", sum := "08549d814cb483bf5b67e8091fde0f71bb179cb80a1efb909a22255c1504c123", func := "loop.example/treelocks/laws.FnExactFreeLocks", spec := "fnExactFreeLocks", named := ["loop.example/treelocks/impl.together"], apart := false, laid := [("loop.example/treelocks/impl.together", laid_loop_example_treelocks_impl_together)] }
def FnExactFreeLocksSaid : Prop := fnExactFreeLocksRow.holds Tryd.pinned (OpenSpec.ofChange fnExactFreeLocksSpec)

/-- ITS FALSE NEIGHBOUR: 'it returns false'. Refute it at one input. -/
def fnExactFreeLocksWrong : ChangeSpec := { name := "fnExactFreeLocks", vars := ["loop.example/treelocks/impl.together"], fn := fun _ => fun
  | [d1, d2, g1] => { results := [.lit (.bool false)], args := [d1, d2], vars := [g1] }
  | _ => none }
def FnExactFreeLocksWrongFalsely : Prop := fnExactFreeLocksRow.holds Tryd.pinned (OpenSpec.ofChange fnExactFreeLocksWrong)

/-- 'laws.FnExactAsksOf': WHATEVER THE INPUT: true; the input reads as it did. -/
def fnExactAsksOfSpec : ChangeSpec := { name := "fnExactAsksOf", vars := ["loop.example/treelocks/impl.together", "loop.example/treelocks/impl.joined"], fn := fun _ => fun
  | [d1, d2, g1, g2] => { results := [.lit (.bool true)], args := [d1, d2], vars := [g1, g2] }
  | _ => none }
def fnExactAsksOfRow : OpenClaim := { program := "yteoeojbeaehdpaadoor", sum := "08549d814cb483bf5b67e8091fde0f71bb179cb80a1efb909a22255c1504c123", func := "loop.example/treelocks/laws.FnExactAsksOf", spec := "fnExactAsksOf", unfollowed := true, recurses := true, named := ["loop.example/treelocks/impl.together", "loop.example/treelocks/impl.joined"], apart := false, laid := [("loop.example/treelocks/impl.together", laid_loop_example_treelocks_impl_together), ("loop.example/treelocks/impl.joined", laid_loop_example_treelocks_impl_joined)] }
def FnExactAsksOfSaid : Prop := fnExactAsksOfRow.holds Tryd.pinned (OpenSpec.ofChange fnExactAsksOfSpec)

/-- ITS FALSE NEIGHBOUR: 'it returns false'. Refute it at one input. -/
def fnExactAsksOfWrong : ChangeSpec := { name := "fnExactAsksOf", vars := ["loop.example/treelocks/impl.together", "loop.example/treelocks/impl.joined"], fn := fun _ => fun
  | [d1, d2, g1, g2] => { results := [.lit (.bool false)], args := [d1, d2], vars := [g1, g2] }
  | _ => none }
def FnExactAsksOfWrongFalsely : Prop := fnExactAsksOfRow.holds Tryd.pinned (OpenSpec.ofChange fnExactAsksOfWrong)

/-- 'laws.FnExactValidSteps': WHATEVER THE INPUT: true; the input reads as it did. -/
def fnExactValidStepsSpec : ChangeSpec := { name := "fnExactValidSteps", vars := ["loop.example/treelocks/impl.together", "loop.example/treelocks/impl.joined"], fn := fun _ => fun
  | [d, g1, g2] => { results := [.lit (.bool true)], args := [d], vars := [g1, g2] }
  | _ => none }
def fnExactValidStepsRow : OpenClaim := { program := "yteoeojbeaehdpaadoor", sum := "08549d814cb483bf5b67e8091fde0f71bb179cb80a1efb909a22255c1504c123", func := "loop.example/treelocks/laws.FnExactValidSteps", spec := "fnExactValidSteps", unfollowed := true, recurses := true, named := ["loop.example/treelocks/impl.together", "loop.example/treelocks/impl.joined"], apart := false, laid := [("loop.example/treelocks/impl.together", laid_loop_example_treelocks_impl_together), ("loop.example/treelocks/impl.joined", laid_loop_example_treelocks_impl_joined)] }
def FnExactValidStepsSaid : Prop := fnExactValidStepsRow.holds Tryd.pinned (OpenSpec.ofChange fnExactValidStepsSpec)

/-- ITS FALSE NEIGHBOUR: 'it returns false'. Refute it at one input. -/
def fnExactValidStepsWrong : ChangeSpec := { name := "fnExactValidSteps", vars := ["loop.example/treelocks/impl.together", "loop.example/treelocks/impl.joined"], fn := fun _ => fun
  | [d, g1, g2] => { results := [.lit (.bool false)], args := [d], vars := [g1, g2] }
  | _ => none }
def FnExactValidStepsWrongFalsely : Prop := fnExactValidStepsRow.holds Tryd.pinned (OpenSpec.ofChange fnExactValidStepsWrong)

/-- 'laws.FnExactTableAfter': WHATEVER THE INPUT: true; the input reads as it did. -/
def fnExactTableAfterSpec : ChangeSpec := { name := "fnExactTableAfter", vars := ["loop.example/treelocks/impl.together", "loop.example/treelocks/impl.joined"], fn := fun _ => fun
  | [d, g1, g2] => { results := [.lit (.bool true)], args := [d], vars := [g1, g2] }
  | _ => none }
def fnExactTableAfterRow : OpenClaim := { program := "yteoeojbeaehdpaadoor", sum := "08549d814cb483bf5b67e8091fde0f71bb179cb80a1efb909a22255c1504c123", func := "loop.example/treelocks/laws.FnExactTableAfter", spec := "fnExactTableAfter", unfollowed := true, recurses := true, named := ["loop.example/treelocks/impl.together", "loop.example/treelocks/impl.joined"], apart := false, laid := [("loop.example/treelocks/impl.together", laid_loop_example_treelocks_impl_together), ("loop.example/treelocks/impl.joined", laid_loop_example_treelocks_impl_joined)] }
def FnExactTableAfterSaid : Prop := fnExactTableAfterRow.holds Tryd.pinned (OpenSpec.ofChange fnExactTableAfterSpec)

/-- ITS FALSE NEIGHBOUR: 'it returns false'. Refute it at one input. -/
def fnExactTableAfterWrong : ChangeSpec := { name := "fnExactTableAfter", vars := ["loop.example/treelocks/impl.together", "loop.example/treelocks/impl.joined"], fn := fun _ => fun
  | [d, g1, g2] => { results := [.lit (.bool false)], args := [d], vars := [g1, g2] }
  | _ => none }
def FnExactTableAfterWrongFalsely : Prop := fnExactTableAfterRow.holds Tryd.pinned (OpenSpec.ofChange fnExactTableAfterWrong)

/-- 'laws.FnExactIsTwoPhase': WHATEVER THE INPUT: true; the input reads as it did. -/
def fnExactIsTwoPhaseSpec : ChangeSpec := { name := "fnExactIsTwoPhase", vars := ["loop.example/treelocks/impl.together", "loop.example/treelocks/impl.joined"], fn := fun _ => fun
  | [d1, d2, g1, g2] => { results := [.lit (.bool true)], args := [d1, d2], vars := [g1, g2] }
  | _ => none }
def fnExactIsTwoPhaseRow : OpenClaim := { program := "yteoeojbeaehdpaadoor", sum := "08549d814cb483bf5b67e8091fde0f71bb179cb80a1efb909a22255c1504c123", func := "loop.example/treelocks/laws.FnExactIsTwoPhase", spec := "fnExactIsTwoPhase", unfollowed := true, recurses := true, named := ["loop.example/treelocks/impl.together", "loop.example/treelocks/impl.joined"], apart := false, laid := [("loop.example/treelocks/impl.together", laid_loop_example_treelocks_impl_together), ("loop.example/treelocks/impl.joined", laid_loop_example_treelocks_impl_joined)] }
def FnExactIsTwoPhaseSaid : Prop := fnExactIsTwoPhaseRow.holds Tryd.pinned (OpenSpec.ofChange fnExactIsTwoPhaseSpec)

/-- ITS FALSE NEIGHBOUR: 'it returns false'. Refute it at one input. -/
def fnExactIsTwoPhaseWrong : ChangeSpec := { name := "fnExactIsTwoPhase", vars := ["loop.example/treelocks/impl.together", "loop.example/treelocks/impl.joined"], fn := fun _ => fun
  | [d1, d2, g1, g2] => { results := [.lit (.bool false)], args := [d1, d2], vars := [g1, g2] }
  | _ => none }
def FnExactIsTwoPhaseWrongFalsely : Prop := fnExactIsTwoPhaseRow.holds Tryd.pinned (OpenSpec.ofChange fnExactIsTwoPhaseWrong)

/-- 'laws.FnExactLockPoint': WHATEVER THE INPUT: true; the input reads as it did. -/
def fnExactLockPointSpec : ChangeSpec := { name := "fnExactLockPoint", vars := ["loop.example/treelocks/impl.together", "loop.example/treelocks/impl.joined"], fn := fun _ => fun
  | [d1, d2, g1, g2] => { results := [.lit (.bool true)], args := [d1, d2], vars := [g1, g2] }
  | _ => none }
def fnExactLockPointRow : OpenClaim := { program := "yteoeojbeaehdpaadoor", sum := "08549d814cb483bf5b67e8091fde0f71bb179cb80a1efb909a22255c1504c123", func := "loop.example/treelocks/laws.FnExactLockPoint", spec := "fnExactLockPoint", unfollowed := true, recurses := true, named := ["loop.example/treelocks/impl.together", "loop.example/treelocks/impl.joined"], apart := false, laid := [("loop.example/treelocks/impl.together", laid_loop_example_treelocks_impl_together), ("loop.example/treelocks/impl.joined", laid_loop_example_treelocks_impl_joined)] }
def FnExactLockPointSaid : Prop := fnExactLockPointRow.holds Tryd.pinned (OpenSpec.ofChange fnExactLockPointSpec)

/-- ITS FALSE NEIGHBOUR: 'it returns false'. Refute it at one input. -/
def fnExactLockPointWrong : ChangeSpec := { name := "fnExactLockPoint", vars := ["loop.example/treelocks/impl.together", "loop.example/treelocks/impl.joined"], fn := fun _ => fun
  | [d1, d2, g1, g2] => { results := [.lit (.bool false)], args := [d1, d2], vars := [g1, g2] }
  | _ => none }
def FnExactLockPointWrongFalsely : Prop := fnExactLockPointRow.holds Tryd.pinned (OpenSpec.ofChange fnExactLockPointWrong)

/-- 'laws.FnExactLockPointOrder': WHATEVER THE INPUT: true; the input reads as it did. -/
def fnExactLockPointOrderSpec : ChangeSpec := { name := "fnExactLockPointOrder", vars := ["loop.example/treelocks/impl.together", "loop.example/treelocks/impl.joined"], fn := fun _ => fun
  | [d, g1, g2] => { results := [.lit (.bool true)], args := [d], vars := [g1, g2] }
  | _ => none }
def fnExactLockPointOrderRow : OpenClaim := { program := "yteoeojbeaehdpaadoor", sum := "08549d814cb483bf5b67e8091fde0f71bb179cb80a1efb909a22255c1504c123", func := "loop.example/treelocks/laws.FnExactLockPointOrder", spec := "fnExactLockPointOrder", unfollowed := true, recurses := true, named := ["loop.example/treelocks/impl.together", "loop.example/treelocks/impl.joined"], apart := false, laid := [("loop.example/treelocks/impl.together", laid_loop_example_treelocks_impl_together), ("loop.example/treelocks/impl.joined", laid_loop_example_treelocks_impl_joined)] }
def FnExactLockPointOrderSaid : Prop := fnExactLockPointOrderRow.holds Tryd.pinned (OpenSpec.ofChange fnExactLockPointOrderSpec)

/-- ITS FALSE NEIGHBOUR: 'it returns false'. Refute it at one input. -/
def fnExactLockPointOrderWrong : ChangeSpec := { name := "fnExactLockPointOrder", vars := ["loop.example/treelocks/impl.together", "loop.example/treelocks/impl.joined"], fn := fun _ => fun
  | [d, g1, g2] => { results := [.lit (.bool false)], args := [d], vars := [g1, g2] }
  | _ => none }
def FnExactLockPointOrderWrongFalsely : Prop := fnExactLockPointOrderRow.holds Tryd.pinned (OpenSpec.ofChange fnExactLockPointOrderWrong)

/-- 'laws.FnExactAccessesOf': WHATEVER THE INPUT: true; the input reads as it did. -/
def fnExactAccessesOfSpec : ChangeSpec := { name := "fnExactAccessesOf", vars := ["loop.example/treelocks/impl.together", "loop.example/treelocks/impl.joined"], fn := fun _ => fun
  | [d, g1, g2] => { results := [.lit (.bool true)], args := [d], vars := [g1, g2] }
  | _ => none }
def fnExactAccessesOfRow : OpenClaim := { program := "yteoeojbeaehdpaadoor", sum := "08549d814cb483bf5b67e8091fde0f71bb179cb80a1efb909a22255c1504c123", func := "loop.example/treelocks/laws.FnExactAccessesOf", spec := "fnExactAccessesOf", unfollowed := true, recurses := true, named := ["loop.example/treelocks/impl.together", "loop.example/treelocks/impl.joined"], apart := false, laid := [("loop.example/treelocks/impl.together", laid_loop_example_treelocks_impl_together), ("loop.example/treelocks/impl.joined", laid_loop_example_treelocks_impl_joined)] }
def FnExactAccessesOfSaid : Prop := fnExactAccessesOfRow.holds Tryd.pinned (OpenSpec.ofChange fnExactAccessesOfSpec)

/-- ITS FALSE NEIGHBOUR: 'it returns false'. Refute it at one input. -/
def fnExactAccessesOfWrong : ChangeSpec := { name := "fnExactAccessesOf", vars := ["loop.example/treelocks/impl.together", "loop.example/treelocks/impl.joined"], fn := fun _ => fun
  | [d, g1, g2] => { results := [.lit (.bool false)], args := [d], vars := [g1, g2] }
  | _ => none }
def FnExactAccessesOfWrongFalsely : Prop := fnExactAccessesOfRow.holds Tryd.pinned (OpenSpec.ofChange fnExactAccessesOfWrong)

/- THE SECOND FORM. 'bulk': how many values and letters a reading holds, each counted each time it is reached (what is shared counts as often as it is met; a slice's spare places count too). A statement '..UptoSaid' is the law's where the arguments, and the package variables that the reading takes, are together of bulk at most 1048576: NARROWER than '..Said'. Prove '..Said' where nothing that the law and all that it calls make is longer than what came in: it says more and counts as full. Else prove '..UptoSaid'. A law counts once. -/
mutual
def uptoBulk {H : Type} : DataW H → Nat
  | .lit (.string bytes) => bytes.length + 1
  | .lit _ => 1
  | .nil => 1
  | .ptr d => uptoBulk d + 1
  | .slice elems spare => uptoBulkAll elems + uptoBulkAll spare + 1
  | .agg parts => uptoBulkAll parts + 1
  | .iface _ d => uptoBulk d + 1
  | .map entries => uptoBulkEntries entries + 1
  | .held _ => 1
def uptoBulkAll {H : Type} : List (DataW H) → Nat
  | [] => 0
  | d :: r => uptoBulk d + uptoBulkAll r
def uptoBulkEntries {H : Type} : List (Lit × DataW H) → Nat
  | [] => 0
  | x :: r => uptoBulkEntry x + uptoBulkEntries r
def uptoBulkEntry {H : Type} : Lit × DataW H → Nat
  | (.string bytes, d) => bytes.length + uptoBulk d + 1
  | (_, d) => uptoBulk d + 1
 end
def uptoSmall : (H : Type) → List (DataW H) → Bool := fun _ ds => decide (uptoBulkAll ds ≤ 1048576)
def OpenSpec.upto (s : _root_.Go.ChangeSpec) : _root_.Go.OpenSpec := { _root_.Go.OpenSpec.ofChange s with cond := some uptoSmall }

/-- 'laws.FnExactValidTable', WHERE WHAT IT READS IS OF BULK AT MOST 1048576: true; the input reads as it did. -/
def fnExactValidTableUptoRow : OpenClaim := { program := "yteoeojbeaehdpaadoor", sum := "08549d814cb483bf5b67e8091fde0f71bb179cb80a1efb909a22255c1504c123", func := "loop.example/treelocks/laws.FnExactValidTable", spec := "fnExactValidTable", named := ["loop.example/treelocks/impl.together"], apart := false, laid := [("loop.example/treelocks/impl.together", laid_loop_example_treelocks_impl_together)], narrowed := true }
def FnExactValidTableUptoSaid : Prop := fnExactValidTableUptoRow.holds Tryd.pinned (OpenSpec.upto fnExactValidTableSpec)

/-- 'laws.FnExactHeldMode', WHERE WHAT IT READS IS OF BULK AT MOST 1048576: true; the input reads as it did. -/
def fnExactHeldModeUptoRow : OpenClaim := { program := "yteoeojbeaehdpaadoor", sum := "08549d814cb483bf5b67e8091fde0f71bb179cb80a1efb909a22255c1504c123", func := "loop.example/treelocks/laws.FnExactHeldMode", spec := "fnExactHeldMode", unfollowed := true, recurses := true, named := ["loop.example/treelocks/impl.together"], apart := false, laid := [("loop.example/treelocks/impl.together", laid_loop_example_treelocks_impl_together)], narrowed := true }
def FnExactHeldModeUptoSaid : Prop := fnExactHeldModeUptoRow.holds Tryd.pinned (OpenSpec.upto fnExactHeldModeSpec)

/-- 'laws.FnExactLockBlockers', WHERE WHAT IT READS IS OF BULK AT MOST 1048576: true; the input reads as it did. -/
def fnExactLockBlockersUptoRow : OpenClaim := { program := "yteoeojbeaehdpaadoor", sum := "08549d814cb483bf5b67e8091fde0f71bb179cb80a1efb909a22255c1504c123", func := "loop.example/treelocks/laws.FnExactLockBlockers", spec := "fnExactLockBlockers", unfollowed := true, recurses := true, named := ["loop.example/treelocks/impl.together", "loop.example/treelocks/impl.joined"], apart := false, laid := [("loop.example/treelocks/impl.together", laid_loop_example_treelocks_impl_together), ("loop.example/treelocks/impl.joined", laid_loop_example_treelocks_impl_joined)], narrowed := true }
def FnExactLockBlockersUptoSaid : Prop := fnExactLockBlockersUptoRow.holds Tryd.pinned (OpenSpec.upto fnExactLockBlockersSpec)

/-- 'laws.FnExactTakeLock', WHERE WHAT IT READS IS OF BULK AT MOST 1048576: true; the input reads as it did. -/
def fnExactTakeLockUptoRow : OpenClaim := { program := "yteoeojbeaehdpaadoor", sum := "08549d814cb483bf5b67e8091fde0f71bb179cb80a1efb909a22255c1504c123", func := "loop.example/treelocks/laws.FnExactTakeLock", spec := "fnExactTakeLock", unfollowed := true, recurses := true, named := ["loop.example/treelocks/impl.together", "loop.example/treelocks/impl.joined"], apart := false, laid := [("loop.example/treelocks/impl.together", laid_loop_example_treelocks_impl_together), ("loop.example/treelocks/impl.joined", laid_loop_example_treelocks_impl_joined)], narrowed := true }
def FnExactTakeLockUptoSaid : Prop := fnExactTakeLockUptoRow.holds Tryd.pinned (OpenSpec.upto fnExactTakeLockSpec)

/-- 'laws.FnExactFreeLocks', WHERE WHAT IT READS IS OF BULK AT MOST 1048576: true; the input reads as it did. -/
def fnExactFreeLocksUptoRow : OpenClaim := { program := "yteoeojbeaehdpaadoor", sum := "08549d814cb483bf5b67e8091fde0f71bb179cb80a1efb909a22255c1504c123", func := "loop.example/treelocks/laws.FnExactFreeLocks", spec := "fnExactFreeLocks", named := ["loop.example/treelocks/impl.together"], apart := false, laid := [("loop.example/treelocks/impl.together", laid_loop_example_treelocks_impl_together)], narrowed := true }
def FnExactFreeLocksUptoSaid : Prop := fnExactFreeLocksUptoRow.holds Tryd.pinned (OpenSpec.upto fnExactFreeLocksSpec)

/-- 'laws.FnExactAsksOf', WHERE WHAT IT READS IS OF BULK AT MOST 1048576: true; the input reads as it did. -/
def fnExactAsksOfUptoRow : OpenClaim := { program := "yteoeojbeaehdpaadoor", sum := "08549d814cb483bf5b67e8091fde0f71bb179cb80a1efb909a22255c1504c123", func := "loop.example/treelocks/laws.FnExactAsksOf", spec := "fnExactAsksOf", unfollowed := true, recurses := true, named := ["loop.example/treelocks/impl.together", "loop.example/treelocks/impl.joined"], apart := false, laid := [("loop.example/treelocks/impl.together", laid_loop_example_treelocks_impl_together), ("loop.example/treelocks/impl.joined", laid_loop_example_treelocks_impl_joined)], narrowed := true }
def FnExactAsksOfUptoSaid : Prop := fnExactAsksOfUptoRow.holds Tryd.pinned (OpenSpec.upto fnExactAsksOfSpec)

/-- 'laws.FnExactValidSteps', WHERE WHAT IT READS IS OF BULK AT MOST 1048576: true; the input reads as it did. -/
def fnExactValidStepsUptoRow : OpenClaim := { program := "yteoeojbeaehdpaadoor", sum := "08549d814cb483bf5b67e8091fde0f71bb179cb80a1efb909a22255c1504c123", func := "loop.example/treelocks/laws.FnExactValidSteps", spec := "fnExactValidSteps", unfollowed := true, recurses := true, named := ["loop.example/treelocks/impl.together", "loop.example/treelocks/impl.joined"], apart := false, laid := [("loop.example/treelocks/impl.together", laid_loop_example_treelocks_impl_together), ("loop.example/treelocks/impl.joined", laid_loop_example_treelocks_impl_joined)], narrowed := true }
def FnExactValidStepsUptoSaid : Prop := fnExactValidStepsUptoRow.holds Tryd.pinned (OpenSpec.upto fnExactValidStepsSpec)

/-- 'laws.FnExactTableAfter', WHERE WHAT IT READS IS OF BULK AT MOST 1048576: true; the input reads as it did. -/
def fnExactTableAfterUptoRow : OpenClaim := { program := "yteoeojbeaehdpaadoor", sum := "08549d814cb483bf5b67e8091fde0f71bb179cb80a1efb909a22255c1504c123", func := "loop.example/treelocks/laws.FnExactTableAfter", spec := "fnExactTableAfter", unfollowed := true, recurses := true, named := ["loop.example/treelocks/impl.together", "loop.example/treelocks/impl.joined"], apart := false, laid := [("loop.example/treelocks/impl.together", laid_loop_example_treelocks_impl_together), ("loop.example/treelocks/impl.joined", laid_loop_example_treelocks_impl_joined)], narrowed := true }
def FnExactTableAfterUptoSaid : Prop := fnExactTableAfterUptoRow.holds Tryd.pinned (OpenSpec.upto fnExactTableAfterSpec)

/-- 'laws.FnExactIsTwoPhase', WHERE WHAT IT READS IS OF BULK AT MOST 1048576: true; the input reads as it did. -/
def fnExactIsTwoPhaseUptoRow : OpenClaim := { program := "yteoeojbeaehdpaadoor", sum := "08549d814cb483bf5b67e8091fde0f71bb179cb80a1efb909a22255c1504c123", func := "loop.example/treelocks/laws.FnExactIsTwoPhase", spec := "fnExactIsTwoPhase", unfollowed := true, recurses := true, named := ["loop.example/treelocks/impl.together", "loop.example/treelocks/impl.joined"], apart := false, laid := [("loop.example/treelocks/impl.together", laid_loop_example_treelocks_impl_together), ("loop.example/treelocks/impl.joined", laid_loop_example_treelocks_impl_joined)], narrowed := true }
def FnExactIsTwoPhaseUptoSaid : Prop := fnExactIsTwoPhaseUptoRow.holds Tryd.pinned (OpenSpec.upto fnExactIsTwoPhaseSpec)

/-- 'laws.FnExactLockPoint', WHERE WHAT IT READS IS OF BULK AT MOST 1048576: true; the input reads as it did. -/
def fnExactLockPointUptoRow : OpenClaim := { program := "yteoeojbeaehdpaadoor", sum := "08549d814cb483bf5b67e8091fde0f71bb179cb80a1efb909a22255c1504c123", func := "loop.example/treelocks/laws.FnExactLockPoint", spec := "fnExactLockPoint", unfollowed := true, recurses := true, named := ["loop.example/treelocks/impl.together", "loop.example/treelocks/impl.joined"], apart := false, laid := [("loop.example/treelocks/impl.together", laid_loop_example_treelocks_impl_together), ("loop.example/treelocks/impl.joined", laid_loop_example_treelocks_impl_joined)], narrowed := true }
def FnExactLockPointUptoSaid : Prop := fnExactLockPointUptoRow.holds Tryd.pinned (OpenSpec.upto fnExactLockPointSpec)

/-- 'laws.FnExactLockPointOrder', WHERE WHAT IT READS IS OF BULK AT MOST 1048576: true; the input reads as it did. -/
def fnExactLockPointOrderUptoRow : OpenClaim := { program := "yteoeojbeaehdpaadoor", sum := "08549d814cb483bf5b67e8091fde0f71bb179cb80a1efb909a22255c1504c123", func := "loop.example/treelocks/laws.FnExactLockPointOrder", spec := "fnExactLockPointOrder", unfollowed := true, recurses := true, named := ["loop.example/treelocks/impl.together", "loop.example/treelocks/impl.joined"], apart := false, laid := [("loop.example/treelocks/impl.together", laid_loop_example_treelocks_impl_together), ("loop.example/treelocks/impl.joined", laid_loop_example_treelocks_impl_joined)], narrowed := true }
def FnExactLockPointOrderUptoSaid : Prop := fnExactLockPointOrderUptoRow.holds Tryd.pinned (OpenSpec.upto fnExactLockPointOrderSpec)

/-- 'laws.FnExactAccessesOf', WHERE WHAT IT READS IS OF BULK AT MOST 1048576: true; the input reads as it did. -/
def fnExactAccessesOfUptoRow : OpenClaim := { program := "yteoeojbeaehdpaadoor", sum := "08549d814cb483bf5b67e8091fde0f71bb179cb80a1efb909a22255c1504c123", func := "loop.example/treelocks/laws.FnExactAccessesOf", spec := "fnExactAccessesOf", unfollowed := true, recurses := true, named := ["loop.example/treelocks/impl.together", "loop.example/treelocks/impl.joined"], apart := false, laid := [("loop.example/treelocks/impl.together", laid_loop_example_treelocks_impl_together), ("loop.example/treelocks/impl.joined", laid_loop_example_treelocks_impl_joined)], narrowed := true }
def FnExactAccessesOfUptoSaid : Prop := fnExactAccessesOfUptoRow.holds Tryd.pinned (OpenSpec.upto fnExactAccessesOfSpec)

end Rows
end Go.Proofs.YteoeojbeaehdpaaDoor
