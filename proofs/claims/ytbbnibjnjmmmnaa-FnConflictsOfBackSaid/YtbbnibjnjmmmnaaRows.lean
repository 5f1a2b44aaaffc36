/-
  No cell of these rows narrows 'for every input' (looked for: loops, veiled, ifaces, maps, wideKeys, modest, calm, conditions, laid).
  DERIVED. THE GIVEN ROWS OF THIS SEAT. 15 by the template 'for every input the law returns true; each argument reads behind the call as it read before'; 0 by the template 'total and deterministic' (their statements: YtbbnibjnjmmmnaaTotals.lean).
  GIVEN WITH THE SEED: the statements are not yours to turn. If you find one false, say at which input.
  Laid BY PROGRAM, IN A SANDBOX (cutbox-rows.mjs): the forced cells as the released guide's own fill.sh prints them over the translation bfdc53c144def69f… (all of the seat's roots in one cut). By AI agents, Wed Nov 11 2026. No macro, syntax, notation, axiom, sorry.
-/
import Derived.Test.YtbbnibjnjmmmnaaChecked
import GoSem.Claim
import GoSem.ClaimJoined
import GoSem.ClaimMapViews
import Derived.JoinedTies
import Derived.KernelRfl
namespace Go.Proofs.Ytbbnibjnjmmmnaa
/- THE CELL 'sum', in the pinned program and in every row, IS THE sha256 OF THE DUMP (.gsa) THAT YtbbnibjnjmmmnaaProg.lean LOADS. Nothing in Lean hashes anything: it is a label: what it is worth is what the hold of that sum in a sandbox is worth. -/
noncomputable def Try.pinned : Pinned := { name := "ytbbnibjnjmmmnaa", sum := "bfdc53c144def69f7666843ed63abd7b46d5bdc1bb8b8541b823eed8875911f9", checked := Try.checked }
namespace Rows
def none {H : Type} : Left H := { results := [], args := [] }

/-- 'laws.FnExactConstants': WHATEVER THE INPUT: true; the input reads as it did. -/
def fnExactConstantsSpec : ChangeSpec := { name := "fnExactConstants", fn := fun _ => fun
  | [] => { results := [.lit (.bool true)], args := [] }
  | _ => none }
def fnExactConstantsRow : OpenClaim := { program := "ytbbnibjnjmmmnaa", sum := "bfdc53c144def69f7666843ed63abd7b46d5bdc1bb8b8541b823eed8875911f9", func := "loop.example/treelocks/laws.FnExactConstants", spec := "fnExactConstants", apart := false }
def FnExactConstantsSaid : Prop := fnExactConstantsRow.holds Try.pinned (OpenSpec.ofChange fnExactConstantsSpec)

/-- ITS FALSE NEIGHBOUR: 'it returns false'. Refute it at one input. -/
def fnExactConstantsWrong : ChangeSpec := { name := "fnExactConstants", fn := fun _ => fun
  | [] => { results := [.lit (.bool false)], args := [] }
  | _ => none }
def FnExactConstantsWrongFalsely : Prop := fnExactConstantsRow.holds Try.pinned (OpenSpec.ofChange fnExactConstantsWrong)

/-- 'laws.FnExactNeedAbove': WHATEVER THE INPUT: true; the input reads as it did. -/
def fnExactNeedAboveSpec : ChangeSpec := { name := "fnExactNeedAbove", fn := fun _ => fun
  | [d] => { results := [.lit (.bool true)], args := [d] }
  | _ => none }
def fnExactNeedAboveRow : OpenClaim := { program := "ytbbnibjnjmmmnaa", sum := "bfdc53c144def69f7666843ed63abd7b46d5bdc1bb8b8541b823eed8875911f9", func := "loop.example/treelocks/laws.FnExactNeedAbove", spec := "fnExactNeedAbove", apart := false }
def FnExactNeedAboveSaid : Prop := fnExactNeedAboveRow.holds Try.pinned (OpenSpec.ofChange fnExactNeedAboveSpec)

/-- ITS FALSE NEIGHBOUR: 'it returns false'. Refute it at one input. -/
def fnExactNeedAboveWrong : ChangeSpec := { name := "fnExactNeedAbove", fn := fun _ => fun
  | [d] => { results := [.lit (.bool false)], args := [d] }
  | _ => none }
def FnExactNeedAboveWrongFalsely : Prop := fnExactNeedAboveRow.holds Try.pinned (OpenSpec.ofChange fnExactNeedAboveWrong)

/-- 'laws.FnValidAccesses': WHATEVER THE INPUT: true; the input reads as it did. -/
def fnValidAccessesSpec : ChangeSpec := { name := "fnValidAccesses", fn := fun _ => fun
  | [d] => { results := [.lit (.bool true)], args := [d] }
  | _ => none }
def fnValidAccessesRow : OpenClaim := { program := "ytbbnibjnjmmmnaa", sum := "bfdc53c144def69f7666843ed63abd7b46d5bdc1bb8b8541b823eed8875911f9", func := "loop.example/treelocks/laws.FnValidAccesses", spec := "fnValidAccesses", apart := false }
def FnValidAccessesSaid : Prop := fnValidAccessesRow.holds Try.pinned (OpenSpec.ofChange fnValidAccessesSpec)

/-- ITS FALSE NEIGHBOUR: 'it returns false'. Refute it at one input. -/
def fnValidAccessesWrong : ChangeSpec := { name := "fnValidAccesses", fn := fun _ => fun
  | [d] => { results := [.lit (.bool false)], args := [d] }
  | _ => none }
def FnValidAccessesWrongFalsely : Prop := fnValidAccessesRow.holds Try.pinned (OpenSpec.ofChange fnValidAccessesWrong)

/-- 'laws.FnExactValidAccesses': WHATEVER THE INPUT: true; the input reads as it did. -/
def fnExactValidAccessesSpec : ChangeSpec := { name := "fnExactValidAccesses", fn := fun _ => fun
  | [d] => { results := [.lit (.bool true)], args := [d] }
  | _ => none }
def fnExactValidAccessesRow : OpenClaim := { program := "ytbbnibjnjmmmnaa", sum := "bfdc53c144def69f7666843ed63abd7b46d5bdc1bb8b8541b823eed8875911f9", func := "loop.example/treelocks/laws.FnExactValidAccesses", spec := "fnExactValidAccesses", apart := false }
def FnExactValidAccessesSaid : Prop := fnExactValidAccessesRow.holds Try.pinned (OpenSpec.ofChange fnExactValidAccessesSpec)

/-- ITS FALSE NEIGHBOUR: 'it returns false'. Refute it at one input. -/
def fnExactValidAccessesWrong : ChangeSpec := { name := "fnExactValidAccesses", fn := fun _ => fun
  | [d] => { results := [.lit (.bool false)], args := [d] }
  | _ => none }
def FnExactValidAccessesWrongFalsely : Prop := fnExactValidAccessesRow.holds Try.pinned (OpenSpec.ofChange fnExactValidAccessesWrong)

/-- 'laws.FnValidWaits': WHATEVER THE INPUT: true; the input reads as it did. -/
def fnValidWaitsSpec : ChangeSpec := { name := "fnValidWaits", fn := fun _ => fun
  | [d] => { results := [.lit (.bool true)], args := [d] }
  | _ => none }
def fnValidWaitsRow : OpenClaim := { program := "ytbbnibjnjmmmnaa", sum := "bfdc53c144def69f7666843ed63abd7b46d5bdc1bb8b8541b823eed8875911f9", func := "loop.example/treelocks/laws.FnValidWaits", spec := "fnValidWaits", apart := false }
def FnValidWaitsSaid : Prop := fnValidWaitsRow.holds Try.pinned (OpenSpec.ofChange fnValidWaitsSpec)

/-- ITS FALSE NEIGHBOUR: 'it returns false'. Refute it at one input. -/
def fnValidWaitsWrong : ChangeSpec := { name := "fnValidWaits", fn := fun _ => fun
  | [d] => { results := [.lit (.bool false)], args := [d] }
  | _ => none }
def FnValidWaitsWrongFalsely : Prop := fnValidWaitsRow.holds Try.pinned (OpenSpec.ofChange fnValidWaitsWrong)

/-- 'laws.FnValidWaitsLess': WHATEVER THE INPUT: true; the input reads as it did. -/
def fnValidWaitsLessSpec : ChangeSpec := { name := "fnValidWaitsLess", fn := fun _ => fun
  | [d] => { results := [.lit (.bool true)], args := [d] }
  | _ => none }
def fnValidWaitsLessRow : OpenClaim := { program := "ytbbnibjnjmmmnaa", sum := "bfdc53c144def69f7666843ed63abd7b46d5bdc1bb8b8541b823eed8875911f9", func := "loop.example/treelocks/laws.FnValidWaitsLess", spec := "fnValidWaitsLess", apart := false }
def FnValidWaitsLessSaid : Prop := fnValidWaitsLessRow.holds Try.pinned (OpenSpec.ofChange fnValidWaitsLessSpec)

/-- ITS FALSE NEIGHBOUR: 'it returns false'. Refute it at one input. -/
def fnValidWaitsLessWrong : ChangeSpec := { name := "fnValidWaitsLess", fn := fun _ => fun
  | [d] => { results := [.lit (.bool false)], args := [d] }
  | _ => none }
def FnValidWaitsLessWrongFalsely : Prop := fnValidWaitsLessRow.holds Try.pinned (OpenSpec.ofChange fnValidWaitsLessWrong)

/-- 'laws.FnExactValidWaits': WHATEVER THE INPUT: true; the input reads as it did. -/
def fnExactValidWaitsSpec : ChangeSpec := { name := "fnExactValidWaits", fn := fun _ => fun
  | [d] => { results := [.lit (.bool true)], args := [d] }
  | _ => none }
def fnExactValidWaitsRow : OpenClaim := { program := "ytbbnibjnjmmmnaa", sum := "bfdc53c144def69f7666843ed63abd7b46d5bdc1bb8b8541b823eed8875911f9", func := "loop.example/treelocks/laws.FnExactValidWaits", spec := "fnExactValidWaits", apart := false }
def FnExactValidWaitsSaid : Prop := fnExactValidWaitsRow.holds Try.pinned (OpenSpec.ofChange fnExactValidWaitsSpec)

/-- ITS FALSE NEIGHBOUR: 'it returns false'. Refute it at one input. -/
def fnExactValidWaitsWrong : ChangeSpec := { name := "fnExactValidWaits", fn := fun _ => fun
  | [d] => { results := [.lit (.bool false)], args := [d] }
  | _ => none }
def FnExactValidWaitsWrongFalsely : Prop := fnExactValidWaitsRow.holds Try.pinned (OpenSpec.ofChange fnExactValidWaitsWrong)

/-- 'laws.FnValidAccessesReads': WHATEVER THE INPUT: true; the input reads as it did. -/
def fnValidAccessesReadsSpec : ChangeSpec := { name := "fnValidAccessesReads", fn := fun _ => fun
  | [d] => { results := [.lit (.bool true)], args := [d] }
  | _ => none }
def fnValidAccessesReadsRow : OpenClaim := { program := "ytbbnibjnjmmmnaa", sum := "bfdc53c144def69f7666843ed63abd7b46d5bdc1bb8b8541b823eed8875911f9", func := "loop.example/treelocks/laws.FnValidAccessesReads", spec := "fnValidAccessesReads", apart := false }
def FnValidAccessesReadsSaid : Prop := fnValidAccessesReadsRow.holds Try.pinned (OpenSpec.ofChange fnValidAccessesReadsSpec)

/-- ITS FALSE NEIGHBOUR: 'it returns false'. Refute it at one input. -/
def fnValidAccessesReadsWrong : ChangeSpec := { name := "fnValidAccessesReads", fn := fun _ => fun
  | [d] => { results := [.lit (.bool false)], args := [d] }
  | _ => none }
def FnValidAccessesReadsWrongFalsely : Prop := fnValidAccessesReadsRow.holds Try.pinned (OpenSpec.ofChange fnValidAccessesReadsWrong)

/-- 'laws.FnConflictsOf': WHATEVER THE INPUT: true; the input reads as it did. -/
def fnConflictsOfSpec : ChangeSpec := { name := "fnConflictsOf", fn := fun _ => fun
  | [d] => { results := [.lit (.bool true)], args := [d] }
  | _ => none }
def fnConflictsOfRow : OpenClaim := { program := "ytbbnibjnjmmmnaa", sum := "bfdc53c144def69f7666843ed63abd7b46d5bdc1bb8b8541b823eed8875911f9", func := "loop.example/treelocks/laws.FnConflictsOf", spec := "fnConflictsOf", apart := false }
def FnConflictsOfSaid : Prop := fnConflictsOfRow.holds Try.pinned (OpenSpec.ofChange fnConflictsOfSpec)

/-- ITS FALSE NEIGHBOUR: 'it returns false'. Refute it at one input. -/
def fnConflictsOfWrong : ChangeSpec := { name := "fnConflictsOf", fn := fun _ => fun
  | [d] => { results := [.lit (.bool false)], args := [d] }
  | _ => none }
def FnConflictsOfWrongFalsely : Prop := fnConflictsOfRow.holds Try.pinned (OpenSpec.ofChange fnConflictsOfWrong)

/-- 'laws.FnConflictsOfBack': WHATEVER THE INPUT: true; the input reads as it did. -/
def fnConflictsOfBackSpec : ChangeSpec := { name := "fnConflictsOfBack", fn := fun _ => fun
  | [d] => { results := [.lit (.bool true)], args := [d] }
  | _ => none }
def fnConflictsOfBackRow : OpenClaim := { program := "ytbbnibjnjmmmnaa", sum := "bfdc53c144def69f7666843ed63abd7b46d5bdc1bb8b8541b823eed8875911f9", func := "loop.example/treelocks/laws.FnConflictsOfBack", spec := "fnConflictsOfBack", apart := false }
def FnConflictsOfBackSaid : Prop := fnConflictsOfBackRow.holds Try.pinned (OpenSpec.ofChange fnConflictsOfBackSpec)

/-- ITS FALSE NEIGHBOUR: 'it returns false'. Refute it at one input. -/
def fnConflictsOfBackWrong : ChangeSpec := { name := "fnConflictsOfBack", fn := fun _ => fun
  | [d] => { results := [.lit (.bool false)], args := [d] }
  | _ => none }
def FnConflictsOfBackWrongFalsely : Prop := fnConflictsOfBackRow.holds Try.pinned (OpenSpec.ofChange fnConflictsOfBackWrong)

/-- 'laws.FnExactConflictsOf': WHATEVER THE INPUT: true; the input reads as it did. -/
def fnExactConflictsOfSpec : ChangeSpec := { name := "fnExactConflictsOf", fn := fun _ => fun
  | [d] => { results := [.lit (.bool true)], args := [d] }
  | _ => none }
def fnExactConflictsOfRow : OpenClaim := { program := "ytbbnibjnjmmmnaa", sum := "bfdc53c144def69f7666843ed63abd7b46d5bdc1bb8b8541b823eed8875911f9", func := "loop.example/treelocks/laws.FnExactConflictsOf", spec := "fnExactConflictsOf", apart := false }
def FnExactConflictsOfSaid : Prop := fnExactConflictsOfRow.holds Try.pinned (OpenSpec.ofChange fnExactConflictsOfSpec)

/-- ITS FALSE NEIGHBOUR: 'it returns false'. Refute it at one input. -/
def fnExactConflictsOfWrong : ChangeSpec := { name := "fnExactConflictsOf", fn := fun _ => fun
  | [d] => { results := [.lit (.bool false)], args := [d] }
  | _ => none }
def FnExactConflictsOfWrongFalsely : Prop := fnExactConflictsOfRow.holds Try.pinned (OpenSpec.ofChange fnExactConflictsOfWrong)

/-- 'laws.FnExactSerialOrder': WHATEVER THE INPUT: true; the input reads as it did. -/
def fnExactSerialOrderSpec : ChangeSpec := { name := "fnExactSerialOrder", fn := fun _ => fun
  | [d] => { results := [.lit (.bool true)], args := [d] }
  | _ => none }
def fnExactSerialOrderRow : OpenClaim := { program := "ytbbnibjnjmmmnaa", sum := "bfdc53c144def69f7666843ed63abd7b46d5bdc1bb8b8541b823eed8875911f9", func := "loop.example/treelocks/laws.FnExactSerialOrder", spec := "fnExactSerialOrder", apart := false }
def FnExactSerialOrderSaid : Prop := fnExactSerialOrderRow.holds Try.pinned (OpenSpec.ofChange fnExactSerialOrderSpec)

/-- ITS FALSE NEIGHBOUR: 'it returns false'. Refute it at one input. -/
def fnExactSerialOrderWrong : ChangeSpec := { name := "fnExactSerialOrder", fn := fun _ => fun
  | [d] => { results := [.lit (.bool false)], args := [d] }
  | _ => none }
def FnExactSerialOrderWrongFalsely : Prop := fnExactSerialOrderRow.holds Try.pinned (OpenSpec.ofChange fnExactSerialOrderWrong)

/-- 'laws.FnExactWaitsFor': WHATEVER THE INPUT: true; the input reads as it did. -/
def fnExactWaitsForSpec : ChangeSpec := { name := "fnExactWaitsFor", fn := fun _ => fun
  | [d1, d2] => { results := [.lit (.bool true)], args := [d1, d2] }
  | _ => none }
def fnExactWaitsForRow : OpenClaim := { program := "ytbbnibjnjmmmnaa", sum := "bfdc53c144def69f7666843ed63abd7b46d5bdc1bb8b8541b823eed8875911f9", func := "loop.example/treelocks/laws.FnExactWaitsFor", spec := "fnExactWaitsFor", apart := false }
def FnExactWaitsForSaid : Prop := fnExactWaitsForRow.holds Try.pinned (OpenSpec.ofChange fnExactWaitsForSpec)

/-- ITS FALSE NEIGHBOUR: 'it returns false'. Refute it at one input. -/
def fnExactWaitsForWrong : ChangeSpec := { name := "fnExactWaitsFor", fn := fun _ => fun
  | [d1, d2] => { results := [.lit (.bool false)], args := [d1, d2] }
  | _ => none }
def FnExactWaitsForWrongFalsely : Prop := fnExactWaitsForRow.holds Try.pinned (OpenSpec.ofChange fnExactWaitsForWrong)

/-- 'laws.FnExactDeadlockOf': WHATEVER THE INPUT: true; the input reads as it did. -/
def fnExactDeadlockOfSpec : ChangeSpec := { name := "fnExactDeadlockOf", fn := fun _ => fun
  | [d] => { results := [.lit (.bool true)], args := [d] }
  | _ => none }
def fnExactDeadlockOfRow : OpenClaim := { program := "ytbbnibjnjmmmnaa", sum := "bfdc53c144def69f7666843ed63abd7b46d5bdc1bb8b8541b823eed8875911f9", func := "loop.example/treelocks/laws.FnExactDeadlockOf", spec := "fnExactDeadlockOf", apart := false }
def FnExactDeadlockOfSaid : Prop := fnExactDeadlockOfRow.holds Try.pinned (OpenSpec.ofChange fnExactDeadlockOfSpec)

/-- ITS FALSE NEIGHBOUR: 'it returns false'. Refute it at one input. -/
def fnExactDeadlockOfWrong : ChangeSpec := { name := "fnExactDeadlockOf", fn := fun _ => fun
  | [d] => { results := [.lit (.bool false)], args := [d] }
  | _ => none }
def FnExactDeadlockOfWrongFalsely : Prop := fnExactDeadlockOfRow.holds Try.pinned (OpenSpec.ofChange fnExactDeadlockOfWrong)

/-- 'laws.FnExactVictimsOf': WHATEVER THE INPUT: true; the input reads as it did. -/
def fnExactVictimsOfSpec : ChangeSpec := { name := "fnExactVictimsOf", fn := fun _ => fun
  | [d] => { results := [.lit (.bool true)], args := [d] }
  | _ => none }
def fnExactVictimsOfRow : OpenClaim := { program := "ytbbnibjnjmmmnaa", sum := "bfdc53c144def69f7666843ed63abd7b46d5bdc1bb8b8541b823eed8875911f9", func := "loop.example/treelocks/laws.FnExactVictimsOf", spec := "fnExactVictimsOf", unfollowed := true, recurses := true, apart := false }
def FnExactVictimsOfSaid : Prop := fnExactVictimsOfRow.holds Try.pinned (OpenSpec.ofChange fnExactVictimsOfSpec)

/-- ITS FALSE NEIGHBOUR: 'it returns false'. Refute it at one input. -/
def fnExactVictimsOfWrong : ChangeSpec := { name := "fnExactVictimsOf", fn := fun _ => fun
  | [d] => { results := [.lit (.bool false)], args := [d] }
  | _ => none }
def FnExactVictimsOfWrongFalsely : Prop := fnExactVictimsOfRow.holds Try.pinned (OpenSpec.ofChange fnExactVictimsOfWrong)

/- THE SECOND FORM. 'bulk': how many values and letters a reading holds, each counted each time it is reached (what is shared counts as often as it is met; a slice's spare places count too). A statement '..UptoSaid' is the law's where the arguments, and the package variables that the reading takes, are together of bulk at most 1048576: NARROWER than '..Said'. Prove '..Said' where nothing that the law and all that it calls make is longer than what came in: it says more and counts as full. Else prove '..UptoSaid'. A law counts once. -/
mutual
def uptoBulk {H : Type} : DataW H → Nat
  | .lit (.string bytes) => bytes.length + 1
  | .lit _ => 1
  | .nil => 1
  | .ptr d => uptoBulk d + 1
  | .slice elems spare => uptoBulkAll elems + uptoBulkAll spare + 1
  | .agg parts => uptoBulkAll parts + 1
  | .iface _ d => uptoBulk d + 1
  | .map entries => uptoBulkEntries entries + 1
  | .held _ => 1
def uptoBulkAll {H : Type} : List (DataW H) → Nat
  | [] => 0
  | d :: r => uptoBulk d + uptoBulkAll r
def uptoBulkEntries {H : Type} : List (Lit × DataW H) → Nat
  | [] => 0
  | x :: r => uptoBulkEntry x + uptoBulkEntries r
def uptoBulkEntry {H : Type} : Lit × DataW H → Nat
  | (.string bytes, d) => bytes.length + uptoBulk d + 1
  | (_, d) => uptoBulk d + 1
 end
def uptoSmall : (H : Type) → List (DataW H) → Bool := fun _ ds => decide (uptoBulkAll ds ≤ 1048576)
def OpenSpec.upto (s : _root_.Go.ChangeSpec) : _root_.Go.OpenSpec := { _root_.Go.OpenSpec.ofChange s with cond := some uptoSmall }

/-- 'laws.FnExactConstants', WHERE WHAT IT READS IS OF BULK AT MOST 1048576: true; the input reads as it did. -/
def fnExactConstantsUptoRow : OpenClaim := { program := "ytbbnibjnjmmmnaa", sum := "bfdc53c144def69f7666843ed63abd7b46d5bdc1bb8b8541b823eed8875911f9", func := "loop.example/treelocks/laws.FnExactConstants", spec := "fnExactConstants", apart := false, narrowed := true }
def FnExactConstantsUptoSaid : Prop := fnExactConstantsUptoRow.holds Try.pinned (OpenSpec.upto fnExactConstantsSpec)

/-- 'laws.FnExactNeedAbove', WHERE WHAT IT READS IS OF BULK AT MOST 1048576: true; the input reads as it did. -/
def fnExactNeedAboveUptoRow : OpenClaim := { program := "ytbbnibjnjmmmnaa", sum := "bfdc53c144def69f7666843ed63abd7b46d5bdc1bb8b8541b823eed8875911f9", func := "loop.example/treelocks/laws.FnExactNeedAbove", spec := "fnExactNeedAbove", apart := false, narrowed := true }
def FnExactNeedAboveUptoSaid : Prop := fnExactNeedAboveUptoRow.holds Try.pinned (OpenSpec.upto fnExactNeedAboveSpec)

/-- 'laws.FnValidAccesses', WHERE WHAT IT READS IS OF BULK AT MOST 1048576: true; the input reads as it did. -/
def fnValidAccessesUptoRow : OpenClaim := { program := "ytbbnibjnjmmmnaa", sum := "bfdc53c144def69f7666843ed63abd7b46d5bdc1bb8b8541b823eed8875911f9", func := "loop.example/treelocks/laws.FnValidAccesses", spec := "fnValidAccesses", apart := false, narrowed := true }
def FnValidAccessesUptoSaid : Prop := fnValidAccessesUptoRow.holds Try.pinned (OpenSpec.upto fnValidAccessesSpec)

/-- 'laws.FnExactValidAccesses', WHERE WHAT IT READS IS OF BULK AT MOST 1048576: true; the input reads as it did. -/
def fnExactValidAccessesUptoRow : OpenClaim := { program := "ytbbnibjnjmmmnaa", sum := "bfdc53c144def69f7666843ed63abd7b46d5bdc1bb8b8541b823eed8875911f9", func := "loop.example/treelocks/laws.FnExactValidAccesses", spec := "fnExactValidAccesses", apart := false, narrowed := true }
def FnExactValidAccessesUptoSaid : Prop := fnExactValidAccessesUptoRow.holds Try.pinned (OpenSpec.upto fnExactValidAccessesSpec)

/-- 'laws.FnValidWaits', WHERE WHAT IT READS IS OF BULK AT MOST 1048576: true; the input reads as it did. -/
def fnValidWaitsUptoRow : OpenClaim := { program := "ytbbnibjnjmmmnaa", sum := "bfdc53c144def69f7666843ed63abd7b46d5bdc1bb8b8541b823eed8875911f9", func := "loop.example/treelocks/laws.FnValidWaits", spec := "fnValidWaits", apart := false, narrowed := true }
def FnValidWaitsUptoSaid : Prop := fnValidWaitsUptoRow.holds Try.pinned (OpenSpec.upto fnValidWaitsSpec)

/-- 'laws.FnValidWaitsLess', WHERE WHAT IT READS IS OF BULK AT MOST 1048576: true; the input reads as it did. -/
def fnValidWaitsLessUptoRow : OpenClaim := { program := "ytbbnibjnjmmmnaa", sum := "bfdc53c144def69f7666843ed63abd7b46d5bdc1bb8b8541b823eed8875911f9", func := "loop.example/treelocks/laws.FnValidWaitsLess", spec := "fnValidWaitsLess", apart := false, narrowed := true }
def FnValidWaitsLessUptoSaid : Prop := fnValidWaitsLessUptoRow.holds Try.pinned (OpenSpec.upto fnValidWaitsLessSpec)

/-- 'laws.FnExactValidWaits', WHERE WHAT IT READS IS OF BULK AT MOST 1048576: true; the input reads as it did. -/
def fnExactValidWaitsUptoRow : OpenClaim := { program := "ytbbnibjnjmmmnaa", sum := "bfdc53c144def69f7666843ed63abd7b46d5bdc1bb8b8541b823eed8875911f9", func := "loop.example/treelocks/laws.FnExactValidWaits", spec := "fnExactValidWaits", apart := false, narrowed := true }
def FnExactValidWaitsUptoSaid : Prop := fnExactValidWaitsUptoRow.holds Try.pinned (OpenSpec.upto fnExactValidWaitsSpec)

/-- 'laws.FnValidAccessesReads', WHERE WHAT IT READS IS OF BULK AT MOST 1048576: true; the input reads as it did. -/
def fnValidAccessesReadsUptoRow : OpenClaim := { program := "ytbbnibjnjmmmnaa", sum := "bfdc53c144def69f7666843ed63abd7b46d5bdc1bb8b8541b823eed8875911f9", func := "loop.example/treelocks/laws.FnValidAccessesReads", spec := "fnValidAccessesReads", apart := false, narrowed := true }
def FnValidAccessesReadsUptoSaid : Prop := fnValidAccessesReadsUptoRow.holds Try.pinned (OpenSpec.upto fnValidAccessesReadsSpec)

/-- 'laws.FnConflictsOf', WHERE WHAT IT READS IS OF BULK AT MOST 1048576: true; the input reads as it did. -/
def fnConflictsOfUptoRow : OpenClaim := { program := "ytbbnibjnjmmmnaa", sum := "bfdc53c144def69f7666843ed63abd7b46d5bdc1bb8b8541b823eed8875911f9", func := "loop.example/treelocks/laws.FnConflictsOf", spec := "fnConflictsOf", apart := false, narrowed := true }
def FnConflictsOfUptoSaid : Prop := fnConflictsOfUptoRow.holds Try.pinned (OpenSpec.upto fnConflictsOfSpec)

/-- 'laws.FnConflictsOfBack', WHERE WHAT IT READS IS OF BULK AT MOST 1048576: true; the input reads as it did. -/
def fnConflictsOfBackUptoRow : OpenClaim := { program := "ytbbnibjnjmmmnaa", sum := "bfdc53c144def69f7666843ed63abd7b46d5bdc1bb8b8541b823eed8875911f9", func := "loop.example/treelocks/laws.FnConflictsOfBack", spec := "fnConflictsOfBack", apart := false, narrowed := true }
def FnConflictsOfBackUptoSaid : Prop := fnConflictsOfBackUptoRow.holds Try.pinned (OpenSpec.upto fnConflictsOfBackSpec)

/-- 'laws.FnExactConflictsOf', WHERE WHAT IT READS IS OF BULK AT MOST 1048576: true; the input reads as it did. -/
def fnExactConflictsOfUptoRow : OpenClaim := { program := "ytbbnibjnjmmmnaa", sum := "bfdc53c144def69f7666843ed63abd7b46d5bdc1bb8b8541b823eed8875911f9", func := "loop.example/treelocks/laws.FnExactConflictsOf", spec := "fnExactConflictsOf", apart := false, narrowed := true }
def FnExactConflictsOfUptoSaid : Prop := fnExactConflictsOfUptoRow.holds Try.pinned (OpenSpec.upto fnExactConflictsOfSpec)

/-- 'laws.FnExactSerialOrder', WHERE WHAT IT READS IS OF BULK AT MOST 1048576: true; the input reads as it did. -/
def fnExactSerialOrderUptoRow : OpenClaim := { program := "ytbbnibjnjmmmnaa", sum := "bfdc53c144def69f7666843ed63abd7b46d5bdc1bb8b8541b823eed8875911f9", func := "loop.example/treelocks/laws.FnExactSerialOrder", spec := "fnExactSerialOrder", apart := false, narrowed := true }
def FnExactSerialOrderUptoSaid : Prop := fnExactSerialOrderUptoRow.holds Try.pinned (OpenSpec.upto fnExactSerialOrderSpec)

/-- 'laws.FnExactWaitsFor', WHERE WHAT IT READS IS OF BULK AT MOST 1048576: true; the input reads as it did. -/
def fnExactWaitsForUptoRow : OpenClaim := { program := "ytbbnibjnjmmmnaa", sum := "bfdc53c144def69f7666843ed63abd7b46d5bdc1bb8b8541b823eed8875911f9", func := "loop.example/treelocks/laws.FnExactWaitsFor", spec := "fnExactWaitsFor", apart := false, narrowed := true }
def FnExactWaitsForUptoSaid : Prop := fnExactWaitsForUptoRow.holds Try.pinned (OpenSpec.upto fnExactWaitsForSpec)

/-- 'laws.FnExactDeadlockOf', WHERE WHAT IT READS IS OF BULK AT MOST 1048576: true; the input reads as it did. -/
def fnExactDeadlockOfUptoRow : OpenClaim := { program := "ytbbnibjnjmmmnaa", sum := "bfdc53c144def69f7666843ed63abd7b46d5bdc1bb8b8541b823eed8875911f9", func := "loop.example/treelocks/laws.FnExactDeadlockOf", spec := "fnExactDeadlockOf", apart := false, narrowed := true }
def FnExactDeadlockOfUptoSaid : Prop := fnExactDeadlockOfUptoRow.holds Try.pinned (OpenSpec.upto fnExactDeadlockOfSpec)

/-- 'laws.FnExactVictimsOf', WHERE WHAT IT READS IS OF BULK AT MOST 1048576: true; the input reads as it did. -/
def fnExactVictimsOfUptoRow : OpenClaim := { program := "ytbbnibjnjmmmnaa", sum := "bfdc53c144def69f7666843ed63abd7b46d5bdc1bb8b8541b823eed8875911f9", func := "loop.example/treelocks/laws.FnExactVictimsOf", spec := "fnExactVictimsOf", unfollowed := true, recurses := true, apart := false, narrowed := true }
def FnExactVictimsOfUptoSaid : Prop := fnExactVictimsOfUptoRow.holds Try.pinned (OpenSpec.upto fnExactVictimsOfSpec)

end Rows
end Go.Proofs.Ytbbnibjnjmmmnaa
