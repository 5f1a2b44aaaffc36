/-
  NARROWER THAN 'FOR EVERY INPUT', by the rows' own cells (each row's printed sentence says how): FnExactIsStronger: laid · FnExactJoinModes: laid · FnExactGoTogether: laid · FnIsStrongerThree: laid · FnGoTogetherNone: laid · FnJoinModesBound: laid · FnJoinModesThree: laid · FnIsStronger: laid · FnGoTogetherWeaker: laid · FnJoinModes: laid · FnJoinModesTogether: laid · FnGoTogether: laid · FnNeedAbove: laid · FnNeedAboveTogether: laid · FnIsStrongerAbove: laid · FnNeedAboveJoin: laid.
  DERIVED. THE GIVEN ROWS OF THIS SEAT. 16 by the template 'for every input the law returns true; each argument reads behind the call as it read before'; 0 by the template 'total and deterministic' (their statements: YtbfaaolbdgpnoaaDoorTotals.lean).
  GIVEN WITH THE SEED: the statements are not yours to turn. If you find one false, say at which input.
  Laid BY PROGRAM, IN A SANDBOX (cutbox-rows.mjs): the forced cells as the released guide's own fill.sh prints them over the translation 1d1ee1ff44ac7350… (all of the seat's roots in one cut). By AI agents, Wed Nov 11 2026. No macro, syntax, notation, axiom, sorry.
-/
import Derived.Test.YtbfaaolbdgpnoaaDoorChecked
import GoSem.Claim
import GoSem.ClaimJoined
import GoSem.ClaimMapViews
import Derived.JoinedTies
import Derived.KernelRfl
namespace Go.Proofs.YtbfaaolbdgpnoaaDoor
/- THE CELL 'sum', in the pinned program and in every row, IS THE sha256 OF THE DUMP (.gsa) THAT YtbfaaolbdgpnoaaDoorProg.lean LOADS. Nothing in Lean hashes anything: it is a label: what it is worth is what the hold of that sum in a sandbox is worth. -/
noncomputable def Tryd.pinned : Pinned := { name := "ytbfaaolbdgpnoaadoor", sum := "1d1ee1ff44ac7350b7cbc8d208fc48662dc7d412c11b33ed0d0dfe2793781179", checked := Tryd.checked }
namespace Rows
def none {H : Type} : Left H := { results := [], args := [] }

/- WHAT THE LISTED PACKAGE-LEVEL VARIABLES READ AS WHEN THE CALL BEGINS. Each datum BY PROGRAM (the guide's laid-datum.mjs) off the statement by which the dump's own 'gosem.cut.vars' lays the variable. In a bare row this is a premise. The card (YtbfaaolbdgpnoaaDoorCards.lean) ties it to the program's text. -/
def laid_loop_example_treelocks_impl_joined {H : Type} : DataW H := .agg [.agg [.lit (.int .i64 0), .lit (.int .i64 1), .lit (.int .i64 2), .lit (.int .i64 3), .lit (.int .i64 4), .lit (.int .i64 5)], .agg [.lit (.int .i64 1), .lit (.int .i64 1), .lit (.int .i64 2), .lit (.int .i64 3), .lit (.int .i64 4), .lit (.int .i64 5)], .agg [.lit (.int .i64 2), .lit (.int .i64 2), .lit (.int .i64 2), .lit (.int .i64 4), .lit (.int .i64 4), .lit (.int .i64 5)], .agg [.lit (.int .i64 3), .lit (.int .i64 3), .lit (.int .i64 4), .lit (.int .i64 3), .lit (.int .i64 4), .lit (.int .i64 5)], .agg [.lit (.int .i64 4), .lit (.int .i64 4), .lit (.int .i64 4), .lit (.int .i64 4), .lit (.int .i64 4), .lit (.int .i64 5)], .agg [.lit (.int .i64 5), .lit (.int .i64 5), .lit (.int .i64 5), .lit (.int .i64 5), .lit (.int .i64 5), .lit (.int .i64 5)]]
def laid_loop_example_treelocks_impl_together {H : Type} : DataW H := .agg [.agg [.lit (.bool true), .lit (.bool true), .lit (.bool true), .lit (.bool true), .lit (.bool true), .lit (.bool true)], .agg [.lit (.bool true), .lit (.bool true), .lit (.bool true), .lit (.bool true), .lit (.bool true), .lit (.bool false)], .agg [.lit (.bool true), .lit (.bool true), .lit (.bool true), .lit (.bool false), .lit (.bool false), .lit (.bool false)], .agg [.lit (.bool true), .lit (.bool true), .lit (.bool false), .lit (.bool true), .lit (.bool false), .lit (.bool false)], .agg [.lit (.bool true), .lit (.bool true), .lit (.bool false), .lit (.bool false), .lit (.bool false), .lit (.bool false)], .agg [.lit (.bool true), .lit (.bool false), .lit (.bool false), .lit (.bool false), .lit (.bool false), .lit (.bool false)]]

/-- 'laws.FnExactIsStronger': WHATEVER THE INPUT: true; the input reads as it did. -/
def fnExactIsStrongerSpec : ChangeSpec := { name := "fnExactIsStronger", vars := ["loop.example/treelocks/impl.joined"], fn := fun _ => fun
  | [d1, d2, g1] => { results := [.lit (.bool true)], args := [d1, d2], vars := [g1] }
  | _ => none }
def fnExactIsStrongerRow : OpenClaim := { program := "ytbfaaolbdgpnoaadoor", sum := "1d1ee1ff44ac7350b7cbc8d208fc48662dc7d412c11b33ed0d0dfe2793781179", func := "loop.example/treelocks/laws.FnExactIsStronger", spec := "fnExactIsStronger", named := ["loop.example/treelocks/impl.joined"], apart := false, laid := [("loop.example/treelocks/impl.joined", laid_loop_example_treelocks_impl_joined)] }
def FnExactIsStrongerSaid : Prop := fnExactIsStrongerRow.holds Tryd.pinned (OpenSpec.ofChange fnExactIsStrongerSpec)

/-- ITS FALSE NEIGHBOUR: 'it returns false'. Refute it at one input. -/
def fnExactIsStrongerWrong : ChangeSpec := { name := "fnExactIsStronger", vars := ["loop.example/treelocks/impl.joined"], fn := fun _ => fun
  | [d1, d2, g1] => { results := [.lit (.bool false)], args := [d1, d2], vars := [g1] }
  | _ => none }
def FnExactIsStrongerWrongFalsely : Prop := fnExactIsStrongerRow.holds Tryd.pinned (OpenSpec.ofChange fnExactIsStrongerWrong)

/-- 'laws.FnExactJoinModes': WHATEVER THE INPUT: true; the input reads as it did. -/
def fnExactJoinModesSpec : ChangeSpec := { name := "fnExactJoinModes", vars := ["loop.example/treelocks/impl.joined"], fn := fun _ => fun
  | [d1, d2, g1] => { results := [.lit (.bool true)], args := [d1, d2], vars := [g1] }
  | _ => none }
def fnExactJoinModesRow : OpenClaim := { program := "ytbfaaolbdgpnoaadoor", sum := "1d1ee1ff44ac7350b7cbc8d208fc48662dc7d412c11b33ed0d0dfe2793781179", func := "loop.example/treelocks/laws.FnExactJoinModes", spec := "fnExactJoinModes", named := ["loop.example/treelocks/impl.joined"], apart := false, laid := [("loop.example/treelocks/impl.joined", laid_loop_example_treelocks_impl_joined)] }
def FnExactJoinModesSaid : Prop := fnExactJoinModesRow.holds Tryd.pinned (OpenSpec.ofChange fnExactJoinModesSpec)

/-- ITS FALSE NEIGHBOUR: 'it returns false'. Refute it at one input. -/
def fnExactJoinModesWrong : ChangeSpec := { name := "fnExactJoinModes", vars := ["loop.example/treelocks/impl.joined"], fn := fun _ => fun
  | [d1, d2, g1] => { results := [.lit (.bool false)], args := [d1, d2], vars := [g1] }
  | _ => none }
def FnExactJoinModesWrongFalsely : Prop := fnExactJoinModesRow.holds Tryd.pinned (OpenSpec.ofChange fnExactJoinModesWrong)

/-- 'laws.FnExactGoTogether': WHATEVER THE INPUT: true; the input reads as it did. -/
def fnExactGoTogetherSpec : ChangeSpec := { name := "fnExactGoTogether", vars := ["loop.example/treelocks/impl.together"], fn := fun _ => fun
  | [d1, d2, g1] => { results := [.lit (.bool true)], args := [d1, d2], vars := [g1] }
  | _ => none }
def fnExactGoTogetherRow : OpenClaim := { program := "ytbfaaolbdgpnoaadoor", sum := "1d1ee1ff44ac7350b7cbc8d208fc48662dc7d412c11b33ed0d0dfe2793781179", func := "loop.example/treelocks/laws.FnExactGoTogether", spec := "fnExactGoTogether", named := ["loop.example/treelocks/impl.together"], apart := false, laid := [("loop.example/treelocks/impl.together", laid_loop_example_treelocks_impl_together)] }
def FnExactGoTogetherSaid : Prop := fnExactGoTogetherRow.holds Tryd.pinned (OpenSpec.ofChange fnExactGoTogetherSpec)

/-- ITS FALSE NEIGHBOUR: 'it returns false'. Refute it at one input. -/
def fnExactGoTogetherWrong : ChangeSpec := { name := "fnExactGoTogether", vars := ["loop.example/treelocks/impl.together"], fn := fun _ => fun
  | [d1, d2, g1] => { results := [.lit (.bool false)], args := [d1, d2], vars := [g1] }
  | _ => none }
def FnExactGoTogetherWrongFalsely : Prop := fnExactGoTogetherRow.holds Tryd.pinned (OpenSpec.ofChange fnExactGoTogetherWrong)

/-- 'laws.FnIsStrongerThree': WHATEVER THE INPUT: true; the input reads as it did. -/
def fnIsStrongerThreeSpec : ChangeSpec := { name := "fnIsStrongerThree", vars := ["loop.example/treelocks/impl.joined"], fn := fun _ => fun
  | [d, g1] => { results := [.lit (.bool true)], args := [d], vars := [g1] }
  | _ => none }
def fnIsStrongerThreeRow : OpenClaim := { program := "ytbfaaolbdgpnoaadoor", sum := "1d1ee1ff44ac7350b7cbc8d208fc48662dc7d412c11b33ed0d0dfe2793781179", func := "loop.example/treelocks/laws.FnIsStrongerThree", spec := "fnIsStrongerThree", named := ["loop.example/treelocks/impl.joined"], apart := false, laid := [("loop.example/treelocks/impl.joined", laid_loop_example_treelocks_impl_joined)] }
def FnIsStrongerThreeSaid : Prop := fnIsStrongerThreeRow.holds Tryd.pinned (OpenSpec.ofChange fnIsStrongerThreeSpec)

/-- ITS FALSE NEIGHBOUR: 'it returns false'. Refute it at one input. -/
def fnIsStrongerThreeWrong : ChangeSpec := { name := "fnIsStrongerThree", vars := ["loop.example/treelocks/impl.joined"], fn := fun _ => fun
  | [d, g1] => { results := [.lit (.bool false)], args := [d], vars := [g1] }
  | _ => none }
def FnIsStrongerThreeWrongFalsely : Prop := fnIsStrongerThreeRow.holds Tryd.pinned (OpenSpec.ofChange fnIsStrongerThreeWrong)

/-- 'laws.FnGoTogetherNone': WHATEVER THE INPUT: true; the input reads as it did. -/
def fnGoTogetherNoneSpec : ChangeSpec := { name := "fnGoTogetherNone", vars := ["loop.example/treelocks/impl.together"], fn := fun _ => fun
  | [d, g1] => { results := [.lit (.bool true)], args := [d], vars := [g1] }
  | _ => none }
def fnGoTogetherNoneRow : OpenClaim := { program := "ytbfaaolbdgpnoaadoor", sum := "1d1ee1ff44ac7350b7cbc8d208fc48662dc7d412c11b33ed0d0dfe2793781179", func := "loop.example/treelocks/laws.FnGoTogetherNone", spec := "fnGoTogetherNone", named := ["loop.example/treelocks/impl.together"], apart := false, laid := [("loop.example/treelocks/impl.together", laid_loop_example_treelocks_impl_together)] }
def FnGoTogetherNoneSaid : Prop := fnGoTogetherNoneRow.holds Tryd.pinned (OpenSpec.ofChange fnGoTogetherNoneSpec)

/-- ITS FALSE NEIGHBOUR: 'it returns false'. Refute it at one input. -/
def fnGoTogetherNoneWrong : ChangeSpec := { name := "fnGoTogetherNone", vars := ["loop.example/treelocks/impl.together"], fn := fun _ => fun
  | [d, g1] => { results := [.lit (.bool false)], args := [d], vars := [g1] }
  | _ => none }
def FnGoTogetherNoneWrongFalsely : Prop := fnGoTogetherNoneRow.holds Tryd.pinned (OpenSpec.ofChange fnGoTogetherNoneWrong)

/-- 'laws.FnJoinModesBound': WHATEVER THE INPUT: true; the input reads as it did. -/
def fnJoinModesBoundSpec : ChangeSpec := { name := "fnJoinModesBound", vars := ["loop.example/treelocks/impl.joined"], fn := fun _ => fun
  | [d, g1] => { results := [.lit (.bool true)], args := [d], vars := [g1] }
  | _ => none }
def fnJoinModesBoundRow : OpenClaim := { program := "ytbfaaolbdgpnoaadoor", sum := "1d1ee1ff44ac7350b7cbc8d208fc48662dc7d412c11b33ed0d0dfe2793781179", func := "loop.example/treelocks/laws.FnJoinModesBound", spec := "fnJoinModesBound", named := ["loop.example/treelocks/impl.joined"], apart := false, laid := [("loop.example/treelocks/impl.joined", laid_loop_example_treelocks_impl_joined)] }
def FnJoinModesBoundSaid : Prop := fnJoinModesBoundRow.holds Tryd.pinned (OpenSpec.ofChange fnJoinModesBoundSpec)

/-- ITS FALSE NEIGHBOUR: 'it returns false'. Refute it at one input. -/
def fnJoinModesBoundWrong : ChangeSpec := { name := "fnJoinModesBound", vars := ["loop.example/treelocks/impl.joined"], fn := fun _ => fun
  | [d, g1] => { results := [.lit (.bool false)], args := [d], vars := [g1] }
  | _ => none }
def FnJoinModesBoundWrongFalsely : Prop := fnJoinModesBoundRow.holds Tryd.pinned (OpenSpec.ofChange fnJoinModesBoundWrong)

/-- 'laws.FnJoinModesThree': WHATEVER THE INPUT: true; the input reads as it did. -/
def fnJoinModesThreeSpec : ChangeSpec := { name := "fnJoinModesThree", vars := ["loop.example/treelocks/impl.joined"], fn := fun _ => fun
  | [d, g1] => { results := [.lit (.bool true)], args := [d], vars := [g1] }
  | _ => none }
def fnJoinModesThreeRow : OpenClaim := { program := "ytbfaaolbdgpnoaadoor", sum := "1d1ee1ff44ac7350b7cbc8d208fc48662dc7d412c11b33ed0d0dfe2793781179", func := "loop.example/treelocks/laws.FnJoinModesThree", spec := "fnJoinModesThree", named := ["loop.example/treelocks/impl.joined"], apart := false, laid := [("loop.example/treelocks/impl.joined", laid_loop_example_treelocks_impl_joined)] }
def FnJoinModesThreeSaid : Prop := fnJoinModesThreeRow.holds Tryd.pinned (OpenSpec.ofChange fnJoinModesThreeSpec)

/-- ITS FALSE NEIGHBOUR: 'it returns false'. Refute it at one input. -/
def fnJoinModesThreeWrong : ChangeSpec := { name := "fnJoinModesThree", vars := ["loop.example/treelocks/impl.joined"], fn := fun _ => fun
  | [d, g1] => { results := [.lit (.bool false)], args := [d], vars := [g1] }
  | _ => none }
def FnJoinModesThreeWrongFalsely : Prop := fnJoinModesThreeRow.holds Tryd.pinned (OpenSpec.ofChange fnJoinModesThreeWrong)

/-- 'laws.FnIsStronger': WHATEVER THE INPUT: true; the input reads as it did. -/
def fnIsStrongerSpec : ChangeSpec := { name := "fnIsStronger", vars := ["loop.example/treelocks/impl.joined"], fn := fun _ => fun
  | [d, g1] => { results := [.lit (.bool true)], args := [d], vars := [g1] }
  | _ => none }
def fnIsStrongerRow : OpenClaim := { program := "ytbfaaolbdgpnoaadoor", sum := "1d1ee1ff44ac7350b7cbc8d208fc48662dc7d412c11b33ed0d0dfe2793781179", func := "loop.example/treelocks/laws.FnIsStronger", spec := "fnIsStronger", named := ["loop.example/treelocks/impl.joined"], apart := false, laid := [("loop.example/treelocks/impl.joined", laid_loop_example_treelocks_impl_joined)] }
def FnIsStrongerSaid : Prop := fnIsStrongerRow.holds Tryd.pinned (OpenSpec.ofChange fnIsStrongerSpec)

/-- ITS FALSE NEIGHBOUR: 'it returns false'. Refute it at one input. -/
def fnIsStrongerWrong : ChangeSpec := { name := "fnIsStronger", vars := ["loop.example/treelocks/impl.joined"], fn := fun _ => fun
  | [d, g1] => { results := [.lit (.bool false)], args := [d], vars := [g1] }
  | _ => none }
def FnIsStrongerWrongFalsely : Prop := fnIsStrongerRow.holds Tryd.pinned (OpenSpec.ofChange fnIsStrongerWrong)

/-- 'laws.FnGoTogetherWeaker': WHATEVER THE INPUT: true; the input reads as it did. -/
def fnGoTogetherWeakerSpec : ChangeSpec := { name := "fnGoTogetherWeaker", vars := ["loop.example/treelocks/impl.together", "loop.example/treelocks/impl.joined"], fn := fun _ => fun
  | [d, g1, g2] => { results := [.lit (.bool true)], args := [d], vars := [g1, g2] }
  | _ => none }
def fnGoTogetherWeakerRow : OpenClaim := { program := "ytbfaaolbdgpnoaadoor", sum := "1d1ee1ff44ac7350b7cbc8d208fc48662dc7d412c11b33ed0d0dfe2793781179", func := "loop.example/treelocks/laws.FnGoTogetherWeaker", spec := "fnGoTogetherWeaker", named := ["loop.example/treelocks/impl.together", "loop.example/treelocks/impl.joined"], apart := false, laid := [("loop.example/treelocks/impl.together", laid_loop_example_treelocks_impl_together), ("loop.example/treelocks/impl.joined", laid_loop_example_treelocks_impl_joined)] }
def FnGoTogetherWeakerSaid : Prop := fnGoTogetherWeakerRow.holds Tryd.pinned (OpenSpec.ofChange fnGoTogetherWeakerSpec)

/-- ITS FALSE NEIGHBOUR: 'it returns false'. Refute it at one input. -/
def fnGoTogetherWeakerWrong : ChangeSpec := { name := "fnGoTogetherWeaker", vars := ["loop.example/treelocks/impl.together", "loop.example/treelocks/impl.joined"], fn := fun _ => fun
  | [d, g1, g2] => { results := [.lit (.bool false)], args := [d], vars := [g1, g2] }
  | _ => none }
def FnGoTogetherWeakerWrongFalsely : Prop := fnGoTogetherWeakerRow.holds Tryd.pinned (OpenSpec.ofChange fnGoTogetherWeakerWrong)

/-- 'laws.FnJoinModes': WHATEVER THE INPUT: true; the input reads as it did. -/
def fnJoinModesSpec : ChangeSpec := { name := "fnJoinModes", vars := ["loop.example/treelocks/impl.joined"], fn := fun _ => fun
  | [d, g1] => { results := [.lit (.bool true)], args := [d], vars := [g1] }
  | _ => none }
def fnJoinModesRow : OpenClaim := { program := "ytbfaaolbdgpnoaadoor", sum := "1d1ee1ff44ac7350b7cbc8d208fc48662dc7d412c11b33ed0d0dfe2793781179", func := "loop.example/treelocks/laws.FnJoinModes", spec := "fnJoinModes", named := ["loop.example/treelocks/impl.joined"], apart := false, laid := [("loop.example/treelocks/impl.joined", laid_loop_example_treelocks_impl_joined)] }
def FnJoinModesSaid : Prop := fnJoinModesRow.holds Tryd.pinned (OpenSpec.ofChange fnJoinModesSpec)

/-- ITS FALSE NEIGHBOUR: 'it returns false'. Refute it at one input. -/
def fnJoinModesWrong : ChangeSpec := { name := "fnJoinModes", vars := ["loop.example/treelocks/impl.joined"], fn := fun _ => fun
  | [d, g1] => { results := [.lit (.bool false)], args := [d], vars := [g1] }
  | _ => none }
def FnJoinModesWrongFalsely : Prop := fnJoinModesRow.holds Tryd.pinned (OpenSpec.ofChange fnJoinModesWrong)

/-- 'laws.FnJoinModesTogether': WHATEVER THE INPUT: true; the input reads as it did. -/
def fnJoinModesTogetherSpec : ChangeSpec := { name := "fnJoinModesTogether", vars := ["loop.example/treelocks/impl.joined", "loop.example/treelocks/impl.together"], fn := fun _ => fun
  | [d, g1, g2] => { results := [.lit (.bool true)], args := [d], vars := [g1, g2] }
  | _ => none }
def fnJoinModesTogetherRow : OpenClaim := { program := "ytbfaaolbdgpnoaadoor", sum := "1d1ee1ff44ac7350b7cbc8d208fc48662dc7d412c11b33ed0d0dfe2793781179", func := "loop.example/treelocks/laws.FnJoinModesTogether", spec := "fnJoinModesTogether", named := ["loop.example/treelocks/impl.joined", "loop.example/treelocks/impl.together"], apart := false, laid := [("loop.example/treelocks/impl.together", laid_loop_example_treelocks_impl_together), ("loop.example/treelocks/impl.joined", laid_loop_example_treelocks_impl_joined)] }
def FnJoinModesTogetherSaid : Prop := fnJoinModesTogetherRow.holds Tryd.pinned (OpenSpec.ofChange fnJoinModesTogetherSpec)

/-- ITS FALSE NEIGHBOUR: 'it returns false'. Refute it at one input. -/
def fnJoinModesTogetherWrong : ChangeSpec := { name := "fnJoinModesTogether", vars := ["loop.example/treelocks/impl.joined", "loop.example/treelocks/impl.together"], fn := fun _ => fun
  | [d, g1, g2] => { results := [.lit (.bool false)], args := [d], vars := [g1, g2] }
  | _ => none }
def FnJoinModesTogetherWrongFalsely : Prop := fnJoinModesTogetherRow.holds Tryd.pinned (OpenSpec.ofChange fnJoinModesTogetherWrong)

/-- 'laws.FnGoTogether': WHATEVER THE INPUT: true; the input reads as it did. -/
def fnGoTogetherSpec : ChangeSpec := { name := "fnGoTogether", vars := ["loop.example/treelocks/impl.together", "loop.example/treelocks/impl.joined"], fn := fun _ => fun
  | [d, g1, g2] => { results := [.lit (.bool true)], args := [d], vars := [g1, g2] }
  | _ => none }
def fnGoTogetherRow : OpenClaim := { program := "ytbfaaolbdgpnoaadoor", sum := "1d1ee1ff44ac7350b7cbc8d208fc48662dc7d412c11b33ed0d0dfe2793781179", func := "loop.example/treelocks/laws.FnGoTogether", spec := "fnGoTogether", named := ["loop.example/treelocks/impl.together", "loop.example/treelocks/impl.joined"], apart := false, laid := [("loop.example/treelocks/impl.together", laid_loop_example_treelocks_impl_together), ("loop.example/treelocks/impl.joined", laid_loop_example_treelocks_impl_joined)] }
def FnGoTogetherSaid : Prop := fnGoTogetherRow.holds Tryd.pinned (OpenSpec.ofChange fnGoTogetherSpec)

/-- ITS FALSE NEIGHBOUR: 'it returns false'. Refute it at one input. -/
def fnGoTogetherWrong : ChangeSpec := { name := "fnGoTogether", vars := ["loop.example/treelocks/impl.together", "loop.example/treelocks/impl.joined"], fn := fun _ => fun
  | [d, g1, g2] => { results := [.lit (.bool false)], args := [d], vars := [g1, g2] }
  | _ => none }
def FnGoTogetherWrongFalsely : Prop := fnGoTogetherRow.holds Tryd.pinned (OpenSpec.ofChange fnGoTogetherWrong)

/-- 'laws.FnNeedAbove': WHATEVER THE INPUT: true; the input reads as it did. -/
def fnNeedAboveSpec : ChangeSpec := { name := "fnNeedAbove", vars := ["loop.example/treelocks/impl.joined"], fn := fun _ => fun
  | [d, g1] => { results := [.lit (.bool true)], args := [d], vars := [g1] }
  | _ => none }
def fnNeedAboveRow : OpenClaim := { program := "ytbfaaolbdgpnoaadoor", sum := "1d1ee1ff44ac7350b7cbc8d208fc48662dc7d412c11b33ed0d0dfe2793781179", func := "loop.example/treelocks/laws.FnNeedAbove", spec := "fnNeedAbove", named := ["loop.example/treelocks/impl.joined"], apart := false, laid := [("loop.example/treelocks/impl.joined", laid_loop_example_treelocks_impl_joined)] }
def FnNeedAboveSaid : Prop := fnNeedAboveRow.holds Tryd.pinned (OpenSpec.ofChange fnNeedAboveSpec)

/-- ITS FALSE NEIGHBOUR: 'it returns false'. Refute it at one input. -/
def fnNeedAboveWrong : ChangeSpec := { name := "fnNeedAbove", vars := ["loop.example/treelocks/impl.joined"], fn := fun _ => fun
  | [d, g1] => { results := [.lit (.bool false)], args := [d], vars := [g1] }
  | _ => none }
def FnNeedAboveWrongFalsely : Prop := fnNeedAboveRow.holds Tryd.pinned (OpenSpec.ofChange fnNeedAboveWrong)

/-- 'laws.FnNeedAboveTogether': WHATEVER THE INPUT: true; the input reads as it did. -/
def fnNeedAboveTogetherSpec : ChangeSpec := { name := "fnNeedAboveTogether", vars := ["loop.example/treelocks/impl.together"], fn := fun _ => fun
  | [d, g1] => { results := [.lit (.bool true)], args := [d], vars := [g1] }
  | _ => none }
def fnNeedAboveTogetherRow : OpenClaim := { program := "ytbfaaolbdgpnoaadoor", sum := "1d1ee1ff44ac7350b7cbc8d208fc48662dc7d412c11b33ed0d0dfe2793781179", func := "loop.example/treelocks/laws.FnNeedAboveTogether", spec := "fnNeedAboveTogether", named := ["loop.example/treelocks/impl.together"], apart := false, laid := [("loop.example/treelocks/impl.together", laid_loop_example_treelocks_impl_together)] }
def FnNeedAboveTogetherSaid : Prop := fnNeedAboveTogetherRow.holds Tryd.pinned (OpenSpec.ofChange fnNeedAboveTogetherSpec)

/-- ITS FALSE NEIGHBOUR: 'it returns false'. Refute it at one input. -/
def fnNeedAboveTogetherWrong : ChangeSpec := { name := "fnNeedAboveTogether", vars := ["loop.example/treelocks/impl.together"], fn := fun _ => fun
  | [d, g1] => { results := [.lit (.bool false)], args := [d], vars := [g1] }
  | _ => none }
def FnNeedAboveTogetherWrongFalsely : Prop := fnNeedAboveTogetherRow.holds Tryd.pinned (OpenSpec.ofChange fnNeedAboveTogetherWrong)

/-- 'laws.FnIsStrongerAbove': WHATEVER THE INPUT: true; the input reads as it did. -/
def fnIsStrongerAboveSpec : ChangeSpec := { name := "fnIsStrongerAbove", vars := ["loop.example/treelocks/impl.joined"], fn := fun _ => fun
  | [d, g1] => { results := [.lit (.bool true)], args := [d], vars := [g1] }
  | _ => none }
def fnIsStrongerAboveRow : OpenClaim := { program := "ytbfaaolbdgpnoaadoor", sum := "1d1ee1ff44ac7350b7cbc8d208fc48662dc7d412c11b33ed0d0dfe2793781179", func := "loop.example/treelocks/laws.FnIsStrongerAbove", spec := "fnIsStrongerAbove", named := ["loop.example/treelocks/impl.joined"], apart := false, laid := [("loop.example/treelocks/impl.joined", laid_loop_example_treelocks_impl_joined)] }
def FnIsStrongerAboveSaid : Prop := fnIsStrongerAboveRow.holds Tryd.pinned (OpenSpec.ofChange fnIsStrongerAboveSpec)

/-- ITS FALSE NEIGHBOUR: 'it returns false'. Refute it at one input. -/
def fnIsStrongerAboveWrong : ChangeSpec := { name := "fnIsStrongerAbove", vars := ["loop.example/treelocks/impl.joined"], fn := fun _ => fun
  | [d, g1] => { results := [.lit (.bool false)], args := [d], vars := [g1] }
  | _ => none }
def FnIsStrongerAboveWrongFalsely : Prop := fnIsStrongerAboveRow.holds Tryd.pinned (OpenSpec.ofChange fnIsStrongerAboveWrong)

/-- 'laws.FnNeedAboveJoin': WHATEVER THE INPUT: true; the input reads as it did. -/
def fnNeedAboveJoinSpec : ChangeSpec := { name := "fnNeedAboveJoin", vars := ["loop.example/treelocks/impl.joined"], fn := fun _ => fun
  | [d, g1] => { results := [.lit (.bool true)], args := [d], vars := [g1] }
  | _ => none }
def fnNeedAboveJoinRow : OpenClaim := { program := "ytbfaaolbdgpnoaadoor", sum := "1d1ee1ff44ac7350b7cbc8d208fc48662dc7d412c11b33ed0d0dfe2793781179", func := "loop.example/treelocks/laws.FnNeedAboveJoin", spec := "fnNeedAboveJoin", named := ["loop.example/treelocks/impl.joined"], apart := false, laid := [("loop.example/treelocks/impl.joined", laid_loop_example_treelocks_impl_joined)] }
def FnNeedAboveJoinSaid : Prop := fnNeedAboveJoinRow.holds Tryd.pinned (OpenSpec.ofChange fnNeedAboveJoinSpec)

/-- ITS FALSE NEIGHBOUR: 'it returns false'. Refute it at one input. -/
def fnNeedAboveJoinWrong : ChangeSpec := { name := "fnNeedAboveJoin", vars := ["loop.example/treelocks/impl.joined"], fn := fun _ => fun
  | [d, g1] => { results := [.lit (.bool false)], args := [d], vars := [g1] }
  | _ => none }
def FnNeedAboveJoinWrongFalsely : Prop := fnNeedAboveJoinRow.holds Tryd.pinned (OpenSpec.ofChange fnNeedAboveJoinWrong)

/- THE SECOND FORM. 'bulk': how many values and letters a reading holds, each counted each time it is reached (what is shared counts as often as it is met; a slice's spare places count too). A statement '..UptoSaid' is the law's where the arguments, and the package variables that the reading takes, are together of bulk at most 1048576: NARROWER than '..Said'. Prove '..Said' where nothing that the law and all that it calls make is longer than what came in: it says more and counts as full. Else prove '..UptoSaid'. A law counts once. -/
mutual
def uptoBulk {H : Type} : DataW H → Nat
  | .lit (.string bytes) => bytes.length + 1
  | .lit _ => 1
  | .nil => 1
  | .ptr d => uptoBulk d + 1
  | .slice elems spare => uptoBulkAll elems + uptoBulkAll spare + 1
  | .agg parts => uptoBulkAll parts + 1
  | .iface _ d => uptoBulk d + 1
  | .map entries => uptoBulkEntries entries + 1
  | .held _ => 1
def uptoBulkAll {H : Type} : List (DataW H) → Nat
  | [] => 0
  | d :: r => uptoBulk d + uptoBulkAll r
def uptoBulkEntries {H : Type} : List (Lit × DataW H) → Nat
  | [] => 0
  | x :: r => uptoBulkEntry x + uptoBulkEntries r
def uptoBulkEntry {H : Type} : Lit × DataW H → Nat
  | (.string bytes, d) => bytes.length + uptoBulk d + 1
  | (_, d) => uptoBulk d + 1
 end
def uptoSmall : (H : Type) → List (DataW H) → Bool := fun _ ds => decide (uptoBulkAll ds ≤ 1048576)
def OpenSpec.upto (s : _root_.Go.ChangeSpec) : _root_.Go.OpenSpec := { _root_.Go.OpenSpec.ofChange s with cond := some uptoSmall }

/-- 'laws.FnExactIsStronger', WHERE WHAT IT READS IS OF BULK AT MOST 1048576: true; the input reads as it did. -/
def fnExactIsStrongerUptoRow : OpenClaim := { program := "ytbfaaolbdgpnoaadoor", sum := "1d1ee1ff44ac7350b7cbc8d208fc48662dc7d412c11b33ed0d0dfe2793781179", func := "loop.example/treelocks/laws.FnExactIsStronger", spec := "fnExactIsStronger", named := ["loop.example/treelocks/impl.joined"], apart := false, laid := [("loop.example/treelocks/impl.joined", laid_loop_example_treelocks_impl_joined)], narrowed := true }
def FnExactIsStrongerUptoSaid : Prop := fnExactIsStrongerUptoRow.holds Tryd.pinned (OpenSpec.upto fnExactIsStrongerSpec)

/-- 'laws.FnExactJoinModes', WHERE WHAT IT READS IS OF BULK AT MOST 1048576: true; the input reads as it did. -/
def fnExactJoinModesUptoRow : OpenClaim := { program := "ytbfaaolbdgpnoaadoor", sum := "1d1ee1ff44ac7350b7cbc8d208fc48662dc7d412c11b33ed0d0dfe2793781179", func := "loop.example/treelocks/laws.FnExactJoinModes", spec := "fnExactJoinModes", named := ["loop.example/treelocks/impl.joined"], apart := false, laid := [("loop.example/treelocks/impl.joined", laid_loop_example_treelocks_impl_joined)], narrowed := true }
def FnExactJoinModesUptoSaid : Prop := fnExactJoinModesUptoRow.holds Tryd.pinned (OpenSpec.upto fnExactJoinModesSpec)

/-- 'laws.FnExactGoTogether', WHERE WHAT IT READS IS OF BULK AT MOST 1048576: true; the input reads as it did. -/
def fnExactGoTogetherUptoRow : OpenClaim := { program := "ytbfaaolbdgpnoaadoor", sum := "1d1ee1ff44ac7350b7cbc8d208fc48662dc7d412c11b33ed0d0dfe2793781179", func := "loop.example/treelocks/laws.FnExactGoTogether", spec := "fnExactGoTogether", named := ["loop.example/treelocks/impl.together"], apart := false, laid := [("loop.example/treelocks/impl.together", laid_loop_example_treelocks_impl_together)], narrowed := true }
def FnExactGoTogetherUptoSaid : Prop := fnExactGoTogetherUptoRow.holds Tryd.pinned (OpenSpec.upto fnExactGoTogetherSpec)

/-- 'laws.FnIsStrongerThree', WHERE WHAT IT READS IS OF BULK AT MOST 1048576: true; the input reads as it did. -/
def fnIsStrongerThreeUptoRow : OpenClaim := { program := "ytbfaaolbdgpnoaadoor", sum := "1d1ee1ff44ac7350b7cbc8d208fc48662dc7d412c11b33ed0d0dfe2793781179", func := "loop.example/treelocks/laws.FnIsStrongerThree", spec := "fnIsStrongerThree", named := ["loop.example/treelocks/impl.joined"], apart := false, laid := [("loop.example/treelocks/impl.joined", laid_loop_example_treelocks_impl_joined)], narrowed := true }
def FnIsStrongerThreeUptoSaid : Prop := fnIsStrongerThreeUptoRow.holds Tryd.pinned (OpenSpec.upto fnIsStrongerThreeSpec)

/-- 'laws.FnGoTogetherNone', WHERE WHAT IT READS IS OF BULK AT MOST 1048576: true; the input reads as it did. -/
def fnGoTogetherNoneUptoRow : OpenClaim := { program := "ytbfaaolbdgpnoaadoor", sum := "1d1ee1ff44ac7350b7cbc8d208fc48662dc7d412c11b33ed0d0dfe2793781179", func := "loop.example/treelocks/laws.FnGoTogetherNone", spec := "fnGoTogetherNone", named := ["loop.example/treelocks/impl.together"], apart := false, laid := [("loop.example/treelocks/impl.together", laid_loop_example_treelocks_impl_together)], narrowed := true }
def FnGoTogetherNoneUptoSaid : Prop := fnGoTogetherNoneUptoRow.holds Tryd.pinned (OpenSpec.upto fnGoTogetherNoneSpec)

/-- 'laws.FnJoinModesBound', WHERE WHAT IT READS IS OF BULK AT MOST 1048576: true; the input reads as it did. -/
def fnJoinModesBoundUptoRow : OpenClaim := { program := "ytbfaaolbdgpnoaadoor", sum := "1d1ee1ff44ac7350b7cbc8d208fc48662dc7d412c11b33ed0d0dfe2793781179", func := "loop.example/treelocks/laws.FnJoinModesBound", spec := "fnJoinModesBound", named := ["loop.example/treelocks/impl.joined"], apart := false, laid := [("loop.example/treelocks/impl.joined", laid_loop_example_treelocks_impl_joined)], narrowed := true }
def FnJoinModesBoundUptoSaid : Prop := fnJoinModesBoundUptoRow.holds Tryd.pinned (OpenSpec.upto fnJoinModesBoundSpec)

/-- 'laws.FnJoinModesThree', WHERE WHAT IT READS IS OF BULK AT MOST 1048576: true; the input reads as it did. -/
def fnJoinModesThreeUptoRow : OpenClaim := { program := "ytbfaaolbdgpnoaadoor", sum := "1d1ee1ff44ac7350b7cbc8d208fc48662dc7d412c11b33ed0d0dfe2793781179", func := "loop.example/treelocks/laws.FnJoinModesThree", spec := "fnJoinModesThree", named := ["loop.example/treelocks/impl.joined"], apart := false, laid := [("loop.example/treelocks/impl.joined", laid_loop_example_treelocks_impl_joined)], narrowed := true }
def FnJoinModesThreeUptoSaid : Prop := fnJoinModesThreeUptoRow.holds Tryd.pinned (OpenSpec.upto fnJoinModesThreeSpec)

/-- 'laws.FnIsStronger', WHERE WHAT IT READS IS OF BULK AT MOST 1048576: true; the input reads as it did. -/
def fnIsStrongerUptoRow : OpenClaim := { program := "ytbfaaolbdgpnoaadoor", sum := "1d1ee1ff44ac7350b7cbc8d208fc48662dc7d412c11b33ed0d0dfe2793781179", func := "loop.example/treelocks/laws.FnIsStronger", spec := "fnIsStronger", named := ["loop.example/treelocks/impl.joined"], apart := false, laid := [("loop.example/treelocks/impl.joined", laid_loop_example_treelocks_impl_joined)], narrowed := true }
def FnIsStrongerUptoSaid : Prop := fnIsStrongerUptoRow.holds Tryd.pinned (OpenSpec.upto fnIsStrongerSpec)

/-- 'laws.FnGoTogetherWeaker', WHERE WHAT IT READS IS OF BULK AT MOST 1048576: true; the input reads as it did. -/
def fnGoTogetherWeakerUptoRow : OpenClaim := { program := "ytbfaaolbdgpnoaadoor", sum := "1d1ee1ff44ac7350b7cbc8d208fc48662dc7d412c11b33ed0d0dfe2793781179", func := "loop.example/treelocks/laws.FnGoTogetherWeaker", spec := "fnGoTogetherWeaker", named := ["loop.example/treelocks/impl.together", "loop.example/treelocks/impl.joined"], apart := false, laid := [("loop.example/treelocks/impl.together", laid_loop_example_treelocks_impl_together), ("loop.example/treelocks/impl.joined", laid_loop_example_treelocks_impl_joined)], narrowed := true }
def FnGoTogetherWeakerUptoSaid : Prop := fnGoTogetherWeakerUptoRow.holds Tryd.pinned (OpenSpec.upto fnGoTogetherWeakerSpec)

/-- 'laws.FnJoinModes', WHERE WHAT IT READS IS OF BULK AT MOST 1048576: true; the input reads as it did. -/
def fnJoinModesUptoRow : OpenClaim := { program := "ytbfaaolbdgpnoaadoor", sum := "1d1ee1ff44ac7350b7cbc8d208fc48662dc7d412c11b33ed0d0dfe2793781179", func := "loop.example/treelocks/laws.FnJoinModes", spec := "fnJoinModes", named := ["loop.example/treelocks/impl.joined"], apart := false, laid := [("loop.example/treelocks/impl.joined", laid_loop_example_treelocks_impl_joined)], narrowed := true }
def FnJoinModesUptoSaid : Prop := fnJoinModesUptoRow.holds Tryd.pinned (OpenSpec.upto fnJoinModesSpec)

/-- 'laws.FnJoinModesTogether', WHERE WHAT IT READS IS OF BULK AT MOST 1048576: true; the input reads as it did. -/
def fnJoinModesTogetherUptoRow : OpenClaim := { program := "ytbfaaolbdgpnoaadoor", sum := "1d1ee1ff44ac7350b7cbc8d208fc48662dc7d412c11b33ed0d0dfe2793781179", func := "loop.example/treelocks/laws.FnJoinModesTogether", spec := "fnJoinModesTogether", named := ["loop.example/treelocks/impl.joined", "loop.example/treelocks/impl.together"], apart := false, laid := [("loop.example/treelocks/impl.together", laid_loop_example_treelocks_impl_together), ("loop.example/treelocks/impl.joined", laid_loop_example_treelocks_impl_joined)], narrowed := true }
def FnJoinModesTogetherUptoSaid : Prop := fnJoinModesTogetherUptoRow.holds Tryd.pinned (OpenSpec.upto fnJoinModesTogetherSpec)

/-- 'laws.FnGoTogether', WHERE WHAT IT READS IS OF BULK AT MOST 1048576: true; the input reads as it did. -/
def fnGoTogetherUptoRow : OpenClaim := { program := "ytbfaaolbdgpnoaadoor", sum := "1d1ee1ff44ac7350b7cbc8d208fc48662dc7d412c11b33ed0d0dfe2793781179", func := "loop.example/treelocks/laws.FnGoTogether", spec := "fnGoTogether", named := ["loop.example/treelocks/impl.together", "loop.example/treelocks/impl.joined"], apart := false, laid := [("loop.example/treelocks/impl.together", laid_loop_example_treelocks_impl_together), ("loop.example/treelocks/impl.joined", laid_loop_example_treelocks_impl_joined)], narrowed := true }
def FnGoTogetherUptoSaid : Prop := fnGoTogetherUptoRow.holds Tryd.pinned (OpenSpec.upto fnGoTogetherSpec)

/-- 'laws.FnNeedAbove', WHERE WHAT IT READS IS OF BULK AT MOST 1048576: true; the input reads as it did. -/
def fnNeedAboveUptoRow : OpenClaim := { program := "ytbfaaolbdgpnoaadoor", sum := "1d1ee1ff44ac7350b7cbc8d208fc48662dc7d412c11b33ed0d0dfe2793781179", func := "loop.example/treelocks/laws.FnNeedAbove", spec := "fnNeedAbove", named := ["loop.example/treelocks/impl.joined"], apart := false, laid := [("loop.example/treelocks/impl.joined", laid_loop_example_treelocks_impl_joined)], narrowed := true }
def FnNeedAboveUptoSaid : Prop := fnNeedAboveUptoRow.holds Tryd.pinned (OpenSpec.upto fnNeedAboveSpec)

/-- 'laws.FnNeedAboveTogether', WHERE WHAT IT READS IS OF BULK AT MOST 1048576: true; the input reads as it did. -/
def fnNeedAboveTogetherUptoRow : OpenClaim := { program := "ytbfaaolbdgpnoaadoor", sum := "1d1ee1ff44ac7350b7cbc8d208fc48662dc7d412c11b33ed0d0dfe2793781179", func := "loop.example/treelocks/laws.FnNeedAboveTogether", spec := "fnNeedAboveTogether", named := ["loop.example/treelocks/impl.together"], apart := false, laid := [("loop.example/treelocks/impl.together", laid_loop_example_treelocks_impl_together)], narrowed := true }
def FnNeedAboveTogetherUptoSaid : Prop := fnNeedAboveTogetherUptoRow.holds Tryd.pinned (OpenSpec.upto fnNeedAboveTogetherSpec)

/-- 'laws.FnIsStrongerAbove', WHERE WHAT IT READS IS OF BULK AT MOST 1048576: true; the input reads as it did. -/
def fnIsStrongerAboveUptoRow : OpenClaim := { program := "ytbfaaolbdgpnoaadoor", sum := "1d1ee1ff44ac7350b7cbc8d208fc48662dc7d412c11b33ed0d0dfe2793781179", func := "loop.example/treelocks/laws.FnIsStrongerAbove", spec := "fnIsStrongerAbove", named := ["loop.example/treelocks/impl.joined"], apart := false, laid := [("loop.example/treelocks/impl.joined", laid_loop_example_treelocks_impl_joined)], narrowed := true }
def FnIsStrongerAboveUptoSaid : Prop := fnIsStrongerAboveUptoRow.holds Tryd.pinned (OpenSpec.upto fnIsStrongerAboveSpec)

/-- 'laws.FnNeedAboveJoin', WHERE WHAT IT READS IS OF BULK AT MOST 1048576: true; the input reads as it did. -/
def fnNeedAboveJoinUptoRow : OpenClaim := { program := "ytbfaaolbdgpnoaadoor", sum := "1d1ee1ff44ac7350b7cbc8d208fc48662dc7d412c11b33ed0d0dfe2793781179", func := "loop.example/treelocks/laws.FnNeedAboveJoin", spec := "fnNeedAboveJoin", named := ["loop.example/treelocks/impl.joined"], apart := false, laid := [("loop.example/treelocks/impl.joined", laid_loop_example_treelocks_impl_joined)], narrowed := true }
def FnNeedAboveJoinUptoSaid : Prop := fnNeedAboveJoinUptoRow.holds Tryd.pinned (OpenSpec.upto fnNeedAboveJoinSpec)

end Rows
end Go.Proofs.YtbfaaolbdgpnoaaDoor
