/-
  No cell of these rows narrows 'for every input' (looked for: loops, veiled, ifaces, maps, wideKeys, modest, calm, conditions, laid).
  DERIVED. THE GIVEN ROWS OF THIS SEAT. 12 by the template 'for every input the law returns true; each argument reads behind the call as it read before'; 0 by the template 'total and deterministic' (their statements: YtjmeeiofoioojaaTotals.lean).
  GIVEN WITH THE SEED: the statements are not yours to turn. If you find one false, say at which input.
  Laid BY PROGRAM, IN A SANDBOX (cutbox-rows.mjs): the forced cells as the released guide's own fill.sh prints them over the translation 124ffc1137e08cbb… (all of the seat's roots in one cut). By AI agents, Wed Nov 11 2026. No macro, syntax, notation, axiom, sorry.
-/
import Derived.Test.YtjmeeiofoioojaaChecked
import GoSem.Claim
import GoSem.ClaimJoined
import GoSem.ClaimMapViews
import Derived.JoinedTies
import Derived.KernelRfl
namespace Go.Proofs.Ytjmeeiofoioojaa
/- THE CELL 'sum', in the pinned program and in every row, IS THE sha256 OF THE DUMP (.gsa) THAT YtjmeeiofoioojaaProg.lean LOADS. Nothing in Lean hashes anything: it is a label: what it is worth is what the hold of that sum in a sandbox is worth. -/
noncomputable def Try.pinned : Pinned := { name := "ytjmeeiofoioojaa", sum := "124ffc1137e08cbb65ae594f1749a05da759ce4bd64dfa4bad6d769e52a07a3d", checked := Try.checked }
namespace Rows
def none {H : Type} : Left H := { results := [], args := [] }

/-- 'laws.FnExactValidTree': WHATEVER THE INPUT: true; the input reads as it did. -/
def fnExactValidTreeSpec : ChangeSpec := { name := "fnExactValidTree", fn := fun _ => fun
  | [d] => { results := [.lit (.bool true)], args := [d] }
  | _ => none }
def fnExactValidTreeRow : OpenClaim := { program := "ytjmeeiofoioojaa", sum := "124ffc1137e08cbb65ae594f1749a05da759ce4bd64dfa4bad6d769e52a07a3d", func := "loop.example/treelocks/laws.FnExactValidTree", spec := "fnExactValidTree", apart := false }
def FnExactValidTreeSaid : Prop := fnExactValidTreeRow.holds Try.pinned (OpenSpec.ofChange fnExactValidTreeSpec)

/-- ITS FALSE NEIGHBOUR: 'it returns false'. Refute it at one input. -/
def fnExactValidTreeWrong : ChangeSpec := { name := "fnExactValidTree", fn := fun _ => fun
  | [d] => { results := [.lit (.bool false)], args := [d] }
  | _ => none }
def FnExactValidTreeWrongFalsely : Prop := fnExactValidTreeRow.holds Try.pinned (OpenSpec.ofChange fnExactValidTreeWrong)

/-- 'laws.FnExactKidOf': WHATEVER THE INPUT: true; the input reads as it did. -/
def fnExactKidOfSpec : ChangeSpec := { name := "fnExactKidOf", fn := fun _ => fun
  | [d1, d2, d3] => { results := [.lit (.bool true)], args := [d1, d2, d3] }
  | _ => none }
def fnExactKidOfRow : OpenClaim := { program := "ytjmeeiofoioojaa", sum := "124ffc1137e08cbb65ae594f1749a05da759ce4bd64dfa4bad6d769e52a07a3d", func := "loop.example/treelocks/laws.FnExactKidOf", spec := "fnExactKidOf", apart := false }
def FnExactKidOfSaid : Prop := fnExactKidOfRow.holds Try.pinned (OpenSpec.ofChange fnExactKidOfSpec)

/-- ITS FALSE NEIGHBOUR: 'it returns false'. Refute it at one input. -/
def fnExactKidOfWrong : ChangeSpec := { name := "fnExactKidOf", fn := fun _ => fun
  | [d1, d2, d3] => { results := [.lit (.bool false)], args := [d1, d2, d3] }
  | _ => none }
def FnExactKidOfWrongFalsely : Prop := fnExactKidOfRow.holds Try.pinned (OpenSpec.ofChange fnExactKidOfWrong)

/-- 'laws.FnExactIsAbove': WHATEVER THE INPUT: true; the input reads as it did. -/
def fnExactIsAboveSpec : ChangeSpec := { name := "fnExactIsAbove", fn := fun _ => fun
  | [d1, d2, d3] => { results := [.lit (.bool true)], args := [d1, d2, d3] }
  | _ => none }
def fnExactIsAboveRow : OpenClaim := { program := "ytjmeeiofoioojaa", sum := "124ffc1137e08cbb65ae594f1749a05da759ce4bd64dfa4bad6d769e52a07a3d", func := "loop.example/treelocks/laws.FnExactIsAbove", spec := "fnExactIsAbove", apart := false }
def FnExactIsAboveSaid : Prop := fnExactIsAboveRow.holds Try.pinned (OpenSpec.ofChange fnExactIsAboveSpec)

/-- ITS FALSE NEIGHBOUR: 'it returns false'. Refute it at one input. -/
def fnExactIsAboveWrong : ChangeSpec := { name := "fnExactIsAbove", fn := fun _ => fun
  | [d1, d2, d3] => { results := [.lit (.bool false)], args := [d1, d2, d3] }
  | _ => none }
def FnExactIsAboveWrongFalsely : Prop := fnExactIsAboveRow.holds Try.pinned (OpenSpec.ofChange fnExactIsAboveWrong)

/-- 'laws.FnExactAddNode': WHATEVER THE INPUT: true; the input reads as it did. -/
def fnExactAddNodeSpec : ChangeSpec := { name := "fnExactAddNode", fn := fun _ => fun
  | [d1, d2, d3, d4] => { results := [.lit (.bool true)], args := [d1, d2, d3, d4] }
  | _ => none }
def fnExactAddNodeRow : OpenClaim := { program := "ytjmeeiofoioojaa", sum := "124ffc1137e08cbb65ae594f1749a05da759ce4bd64dfa4bad6d769e52a07a3d", func := "loop.example/treelocks/laws.FnExactAddNode", spec := "fnExactAddNode", apart := false }
def FnExactAddNodeSaid : Prop := fnExactAddNodeRow.holds Try.pinned (OpenSpec.ofChange fnExactAddNodeSpec)

/-- ITS FALSE NEIGHBOUR: 'it returns false'. Refute it at one input. -/
def fnExactAddNodeWrong : ChangeSpec := { name := "fnExactAddNode", fn := fun _ => fun
  | [d1, d2, d3, d4] => { results := [.lit (.bool false)], args := [d1, d2, d3, d4] }
  | _ => none }
def FnExactAddNodeWrongFalsely : Prop := fnExactAddNodeRow.holds Try.pinned (OpenSpec.ofChange fnExactAddNodeWrong)

/-- 'laws.FnExactDropNode': WHATEVER THE INPUT: true; the input reads as it did. -/
def fnExactDropNodeSpec : ChangeSpec := { name := "fnExactDropNode", fn := fun _ => fun
  | [d1, d2] => { results := [.lit (.bool true)], args := [d1, d2] }
  | _ => none }
def fnExactDropNodeRow : OpenClaim := { program := "ytjmeeiofoioojaa", sum := "124ffc1137e08cbb65ae594f1749a05da759ce4bd64dfa4bad6d769e52a07a3d", func := "loop.example/treelocks/laws.FnExactDropNode", spec := "fnExactDropNode", apart := false }
def FnExactDropNodeSaid : Prop := fnExactDropNodeRow.holds Try.pinned (OpenSpec.ofChange fnExactDropNodeSpec)

/-- ITS FALSE NEIGHBOUR: 'it returns false'. Refute it at one input. -/
def fnExactDropNodeWrong : ChangeSpec := { name := "fnExactDropNode", fn := fun _ => fun
  | [d1, d2] => { results := [.lit (.bool false)], args := [d1, d2] }
  | _ => none }
def FnExactDropNodeWrongFalsely : Prop := fnExactDropNodeRow.holds Try.pinned (OpenSpec.ofChange fnExactDropNodeWrong)

/-- 'laws.FnExactSetValue': WHATEVER THE INPUT: true; the input reads as it did. -/
def fnExactSetValueSpec : ChangeSpec := { name := "fnExactSetValue", fn := fun _ => fun
  | [d1, d2, d3] => { results := [.lit (.bool true)], args := [d1, d2, d3] }
  | _ => none }
def fnExactSetValueRow : OpenClaim := { program := "ytjmeeiofoioojaa", sum := "124ffc1137e08cbb65ae594f1749a05da759ce4bd64dfa4bad6d769e52a07a3d", func := "loop.example/treelocks/laws.FnExactSetValue", spec := "fnExactSetValue", apart := false }
def FnExactSetValueSaid : Prop := fnExactSetValueRow.holds Try.pinned (OpenSpec.ofChange fnExactSetValueSpec)

/-- ITS FALSE NEIGHBOUR: 'it returns false'. Refute it at one input. -/
def fnExactSetValueWrong : ChangeSpec := { name := "fnExactSetValue", fn := fun _ => fun
  | [d1, d2, d3] => { results := [.lit (.bool false)], args := [d1, d2, d3] }
  | _ => none }
def FnExactSetValueWrongFalsely : Prop := fnExactSetValueRow.holds Try.pinned (OpenSpec.ofChange fnExactSetValueWrong)

/-- 'laws.FnExactPathTo': WHATEVER THE INPUT: true; the input reads as it did. -/
def fnExactPathToSpec : ChangeSpec := { name := "fnExactPathTo", fn := fun _ => fun
  | [d1, d2] => { results := [.lit (.bool true)], args := [d1, d2] }
  | _ => none }
def fnExactPathToRow : OpenClaim := { program := "ytjmeeiofoioojaa", sum := "124ffc1137e08cbb65ae594f1749a05da759ce4bd64dfa4bad6d769e52a07a3d", func := "loop.example/treelocks/laws.FnExactPathTo", spec := "fnExactPathTo", apart := false }
def FnExactPathToSaid : Prop := fnExactPathToRow.holds Try.pinned (OpenSpec.ofChange fnExactPathToSpec)

/-- ITS FALSE NEIGHBOUR: 'it returns false'. Refute it at one input. -/
def fnExactPathToWrong : ChangeSpec := { name := "fnExactPathTo", fn := fun _ => fun
  | [d1, d2] => { results := [.lit (.bool false)], args := [d1, d2] }
  | _ => none }
def FnExactPathToWrongFalsely : Prop := fnExactPathToRow.holds Try.pinned (OpenSpec.ofChange fnExactPathToWrong)

/-- 'laws.FnExactPathText': WHATEVER THE INPUT: true; the input reads as it did. -/
def fnExactPathTextSpec : ChangeSpec := { name := "fnExactPathText", fn := fun _ => fun
  | [d1, d2] => { results := [.lit (.bool true)], args := [d1, d2] }
  | _ => none }
def fnExactPathTextRow : OpenClaim := { program := "ytjmeeiofoioojaa", sum := "124ffc1137e08cbb65ae594f1749a05da759ce4bd64dfa4bad6d769e52a07a3d", func := "loop.example/treelocks/laws.FnExactPathText", spec := "fnExactPathText", inPlace := ["internal/abi.NoEscape"], apart := false }
def FnExactPathTextSaid : Prop := fnExactPathTextRow.holds Try.pinned (OpenSpec.ofChange fnExactPathTextSpec)

/-- ITS FALSE NEIGHBOUR: 'it returns false'. Refute it at one input. -/
def fnExactPathTextWrong : ChangeSpec := { name := "fnExactPathText", fn := fun _ => fun
  | [d1, d2] => { results := [.lit (.bool false)], args := [d1, d2] }
  | _ => none }
def FnExactPathTextWrongFalsely : Prop := fnExactPathTextRow.holds Try.pinned (OpenSpec.ofChange fnExactPathTextWrong)

/-- 'laws.FnExactResolvePath': WHATEVER THE INPUT: true; the input reads as it did. -/
def fnExactResolvePathSpec : ChangeSpec := { name := "fnExactResolvePath", fn := fun _ => fun
  | [d1, d2] => { results := [.lit (.bool true)], args := [d1, d2] }
  | _ => none }
def fnExactResolvePathRow : OpenClaim := { program := "ytjmeeiofoioojaa", sum := "124ffc1137e08cbb65ae594f1749a05da759ce4bd64dfa4bad6d769e52a07a3d", func := "loop.example/treelocks/laws.FnExactResolvePath", spec := "fnExactResolvePath", inPlace := ["internal/bytealg.IndexByteString", "internal/bytealg.IndexString"], named := ["internal/bytealg.MaxLen"], apart := false }
def FnExactResolvePathSaid : Prop := fnExactResolvePathRow.holds Try.pinned (OpenSpec.ofChange fnExactResolvePathSpec)

/-- ITS FALSE NEIGHBOUR: 'it returns false'. Refute it at one input. -/
def fnExactResolvePathWrong : ChangeSpec := { name := "fnExactResolvePath", fn := fun _ => fun
  | [d1, d2] => { results := [.lit (.bool false)], args := [d1, d2] }
  | _ => none }
def FnExactResolvePathWrongFalsely : Prop := fnExactResolvePathRow.holds Try.pinned (OpenSpec.ofChange fnExactResolvePathWrong)

/-- 'laws.FnExactMeeting': WHATEVER THE INPUT: true; the input reads as it did. -/
def fnExactMeetingSpec : ChangeSpec := { name := "fnExactMeeting", fn := fun _ => fun
  | [d1, d2, d3] => { results := [.lit (.bool true)], args := [d1, d2, d3] }
  | _ => none }
def fnExactMeetingRow : OpenClaim := { program := "ytjmeeiofoioojaa", sum := "124ffc1137e08cbb65ae594f1749a05da759ce4bd64dfa4bad6d769e52a07a3d", func := "loop.example/treelocks/laws.FnExactMeeting", spec := "fnExactMeeting", apart := false }
def FnExactMeetingSaid : Prop := fnExactMeetingRow.holds Try.pinned (OpenSpec.ofChange fnExactMeetingSpec)

/-- ITS FALSE NEIGHBOUR: 'it returns false'. Refute it at one input. -/
def fnExactMeetingWrong : ChangeSpec := { name := "fnExactMeeting", fn := fun _ => fun
  | [d1, d2, d3] => { results := [.lit (.bool false)], args := [d1, d2, d3] }
  | _ => none }
def FnExactMeetingWrongFalsely : Prop := fnExactMeetingRow.holds Try.pinned (OpenSpec.ofChange fnExactMeetingWrong)

/-- 'laws.FnExactWalkNodes': WHATEVER THE INPUT: true; the input reads as it did. -/
def fnExactWalkNodesSpec : ChangeSpec := { name := "fnExactWalkNodes", fn := fun _ => fun
  | [d1, d2] => { results := [.lit (.bool true)], args := [d1, d2] }
  | _ => none }
def fnExactWalkNodesRow : OpenClaim := { program := "ytjmeeiofoioojaa", sum := "124ffc1137e08cbb65ae594f1749a05da759ce4bd64dfa4bad6d769e52a07a3d", func := "loop.example/treelocks/laws.FnExactWalkNodes", spec := "fnExactWalkNodes", inPlace := ["internal/bytealg.abigen_runtime_cmpstring"], unfollowed := true, recurses := true, apart := false }
def FnExactWalkNodesSaid : Prop := fnExactWalkNodesRow.holds Try.pinned (OpenSpec.ofChange fnExactWalkNodesSpec)

/-- ITS FALSE NEIGHBOUR: 'it returns false'. Refute it at one input. -/
def fnExactWalkNodesWrong : ChangeSpec := { name := "fnExactWalkNodes", fn := fun _ => fun
  | [d1, d2] => { results := [.lit (.bool false)], args := [d1, d2] }
  | _ => none }
def FnExactWalkNodesWrongFalsely : Prop := fnExactWalkNodesRow.holds Try.pinned (OpenSpec.ofChange fnExactWalkNodesWrong)

/-- 'laws.FnExactLocksFor': WHATEVER THE INPUT: true; the input reads as it did. -/
def fnExactLocksForSpec : ChangeSpec := { name := "fnExactLocksFor", fn := fun _ => fun
  | [d1, d2, d3, d4] => { results := [.lit (.bool true)], args := [d1, d2, d3, d4] }
  | _ => none }
def fnExactLocksForRow : OpenClaim := { program := "ytjmeeiofoioojaa", sum := "124ffc1137e08cbb65ae594f1749a05da759ce4bd64dfa4bad6d769e52a07a3d", func := "loop.example/treelocks/laws.FnExactLocksFor", spec := "fnExactLocksFor", apart := false }
def FnExactLocksForSaid : Prop := fnExactLocksForRow.holds Try.pinned (OpenSpec.ofChange fnExactLocksForSpec)

/-- ITS FALSE NEIGHBOUR: 'it returns false'. Refute it at one input. -/
def fnExactLocksForWrong : ChangeSpec := { name := "fnExactLocksFor", fn := fun _ => fun
  | [d1, d2, d3, d4] => { results := [.lit (.bool false)], args := [d1, d2, d3, d4] }
  | _ => none }
def FnExactLocksForWrongFalsely : Prop := fnExactLocksForRow.holds Try.pinned (OpenSpec.ofChange fnExactLocksForWrong)

/- THE SECOND FORM. 'bulk': how many values and letters a reading holds, each counted each time it is reached (what is shared counts as often as it is met; a slice's spare places count too). A statement '..UptoSaid' is the law's where the arguments, and the package variables that the reading takes, are together of bulk at most 1048576: NARROWER than '..Said'. Prove '..Said' where nothing that the law and all that it calls make is longer than what came in: it says more and counts as full. Else prove '..UptoSaid'. A law counts once. -/
mutual
def uptoBulk {H : Type} : DataW H → Nat
  | .lit (.string bytes) => bytes.length + 1
  | .lit _ => 1
  | .nil => 1
  | .ptr d => uptoBulk d + 1
  | .slice elems spare => uptoBulkAll elems + uptoBulkAll spare + 1
  | .agg parts => uptoBulkAll parts + 1
  | .iface _ d => uptoBulk d + 1
  | .map entries => uptoBulkEntries entries + 1
  | .held _ => 1
def uptoBulkAll {H : Type} : List (DataW H) → Nat
  | [] => 0
  | d :: r => uptoBulk d + uptoBulkAll r
def uptoBulkEntries {H : Type} : List (Lit × DataW H) → Nat
  | [] => 0
  | x :: r => uptoBulkEntry x + uptoBulkEntries r
def uptoBulkEntry {H : Type} : Lit × DataW H → Nat
  | (.string bytes, d) => bytes.length + uptoBulk d + 1
  | (_, d) => uptoBulk d + 1
 end
def uptoSmall : (H : Type) → List (DataW H) → Bool := fun _ ds => decide (uptoBulkAll ds ≤ 1048576)
def OpenSpec.upto (s : _root_.Go.ChangeSpec) : _root_.Go.OpenSpec := { _root_.Go.OpenSpec.ofChange s with cond := some uptoSmall }

/-- 'laws.FnExactValidTree', WHERE WHAT IT READS IS OF BULK AT MOST 1048576: true; the input reads as it did. -/
def fnExactValidTreeUptoRow : OpenClaim := { program := "ytjmeeiofoioojaa", sum := "124ffc1137e08cbb65ae594f1749a05da759ce4bd64dfa4bad6d769e52a07a3d", func := "loop.example/treelocks/laws.FnExactValidTree", spec := "fnExactValidTree", apart := false, narrowed := true }
def FnExactValidTreeUptoSaid : Prop := fnExactValidTreeUptoRow.holds Try.pinned (OpenSpec.upto fnExactValidTreeSpec)

/-- 'laws.FnExactKidOf', WHERE WHAT IT READS IS OF BULK AT MOST 1048576: true; the input reads as it did. -/
def fnExactKidOfUptoRow : OpenClaim := { program := "ytjmeeiofoioojaa", sum := "124ffc1137e08cbb65ae594f1749a05da759ce4bd64dfa4bad6d769e52a07a3d", func := "loop.example/treelocks/laws.FnExactKidOf", spec := "fnExactKidOf", apart := false, narrowed := true }
def FnExactKidOfUptoSaid : Prop := fnExactKidOfUptoRow.holds Try.pinned (OpenSpec.upto fnExactKidOfSpec)

/-- 'laws.FnExactIsAbove', WHERE WHAT IT READS IS OF BULK AT MOST 1048576: true; the input reads as it did. -/
def fnExactIsAboveUptoRow : OpenClaim := { program := "ytjmeeiofoioojaa", sum := "124ffc1137e08cbb65ae594f1749a05da759ce4bd64dfa4bad6d769e52a07a3d", func := "loop.example/treelocks/laws.FnExactIsAbove", spec := "fnExactIsAbove", apart := false, narrowed := true }
def FnExactIsAboveUptoSaid : Prop := fnExactIsAboveUptoRow.holds Try.pinned (OpenSpec.upto fnExactIsAboveSpec)

/-- 'laws.FnExactAddNode', WHERE WHAT IT READS IS OF BULK AT MOST 1048576: true; the input reads as it did. -/
def fnExactAddNodeUptoRow : OpenClaim := { program := "ytjmeeiofoioojaa", sum := "124ffc1137e08cbb65ae594f1749a05da759ce4bd64dfa4bad6d769e52a07a3d", func := "loop.example/treelocks/laws.FnExactAddNode", spec := "fnExactAddNode", apart := false, narrowed := true }
def FnExactAddNodeUptoSaid : Prop := fnExactAddNodeUptoRow.holds Try.pinned (OpenSpec.upto fnExactAddNodeSpec)

/-- 'laws.FnExactDropNode', WHERE WHAT IT READS IS OF BULK AT MOST 1048576: true; the input reads as it did. -/
def fnExactDropNodeUptoRow : OpenClaim := { program := "ytjmeeiofoioojaa", sum := "124ffc1137e08cbb65ae594f1749a05da759ce4bd64dfa4bad6d769e52a07a3d", func := "loop.example/treelocks/laws.FnExactDropNode", spec := "fnExactDropNode", apart := false, narrowed := true }
def FnExactDropNodeUptoSaid : Prop := fnExactDropNodeUptoRow.holds Try.pinned (OpenSpec.upto fnExactDropNodeSpec)

/-- 'laws.FnExactSetValue', WHERE WHAT IT READS IS OF BULK AT MOST 1048576: true; the input reads as it did. -/
def fnExactSetValueUptoRow : OpenClaim := { program := "ytjmeeiofoioojaa", sum := "124ffc1137e08cbb65ae594f1749a05da759ce4bd64dfa4bad6d769e52a07a3d", func := "loop.example/treelocks/laws.FnExactSetValue", spec := "fnExactSetValue", apart := false, narrowed := true }
def FnExactSetValueUptoSaid : Prop := fnExactSetValueUptoRow.holds Try.pinned (OpenSpec.upto fnExactSetValueSpec)

/-- 'laws.FnExactPathTo', WHERE WHAT IT READS IS OF BULK AT MOST 1048576: true; the input reads as it did. -/
def fnExactPathToUptoRow : OpenClaim := { program := "ytjmeeiofoioojaa", sum := "124ffc1137e08cbb65ae594f1749a05da759ce4bd64dfa4bad6d769e52a07a3d", func := "loop.example/treelocks/laws.FnExactPathTo", spec := "fnExactPathTo", apart := false, narrowed := true }
def FnExactPathToUptoSaid : Prop := fnExactPathToUptoRow.holds Try.pinned (OpenSpec.upto fnExactPathToSpec)

/-- 'laws.FnExactPathText', WHERE WHAT IT READS IS OF BULK AT MOST 1048576: true; the input reads as it did. -/
def fnExactPathTextUptoRow : OpenClaim := { program := "ytjmeeiofoioojaa", sum := "124ffc1137e08cbb65ae594f1749a05da759ce4bd64dfa4bad6d769e52a07a3d", func := "loop.example/treelocks/laws.FnExactPathText", spec := "fnExactPathText", inPlace := ["internal/abi.NoEscape"], apart := false, narrowed := true }
def FnExactPathTextUptoSaid : Prop := fnExactPathTextUptoRow.holds Try.pinned (OpenSpec.upto fnExactPathTextSpec)

/-- 'laws.FnExactResolvePath', WHERE WHAT IT READS IS OF BULK AT MOST 1048576: true; the input reads as it did. -/
def fnExactResolvePathUptoRow : OpenClaim := { program := "ytjmeeiofoioojaa", sum := "124ffc1137e08cbb65ae594f1749a05da759ce4bd64dfa4bad6d769e52a07a3d", func := "loop.example/treelocks/laws.FnExactResolvePath", spec := "fnExactResolvePath", inPlace := ["internal/bytealg.IndexByteString", "internal/bytealg.IndexString"], named := ["internal/bytealg.MaxLen"], apart := false, narrowed := true }
def FnExactResolvePathUptoSaid : Prop := fnExactResolvePathUptoRow.holds Try.pinned (OpenSpec.upto fnExactResolvePathSpec)

/-- 'laws.FnExactMeeting', WHERE WHAT IT READS IS OF BULK AT MOST 1048576: true; the input reads as it did. -/
def fnExactMeetingUptoRow : OpenClaim := { program := "ytjmeeiofoioojaa", sum := "124ffc1137e08cbb65ae594f1749a05da759ce4bd64dfa4bad6d769e52a07a3d", func := "loop.example/treelocks/laws.FnExactMeeting", spec := "fnExactMeeting", apart := false, narrowed := true }
def FnExactMeetingUptoSaid : Prop := fnExactMeetingUptoRow.holds Try.pinned (OpenSpec.upto fnExactMeetingSpec)

/-- 'laws.FnExactWalkNodes', WHERE WHAT IT READS IS OF BULK AT MOST 1048576: true; the input reads as it did. -/
def fnExactWalkNodesUptoRow : OpenClaim := { program := "ytjmeeiofoioojaa", sum := "124ffc1137e08cbb65ae594f1749a05da759ce4bd64dfa4bad6d769e52a07a3d", func := "loop.example/treelocks/laws.FnExactWalkNodes", spec := "fnExactWalkNodes", inPlace := ["internal/bytealg.abigen_runtime_cmpstring"], unfollowed := true, recurses := true, apart := false, narrowed := true }
def FnExactWalkNodesUptoSaid : Prop := fnExactWalkNodesUptoRow.holds Try.pinned (OpenSpec.upto fnExactWalkNodesSpec)

/-- 'laws.FnExactLocksFor', WHERE WHAT IT READS IS OF BULK AT MOST 1048576: true; the input reads as it did. -/
def fnExactLocksForUptoRow : OpenClaim := { program := "ytjmeeiofoioojaa", sum := "124ffc1137e08cbb65ae594f1749a05da759ce4bd64dfa4bad6d769e52a07a3d", func := "loop.example/treelocks/laws.FnExactLocksFor", spec := "fnExactLocksFor", apart := false, narrowed := true }
def FnExactLocksForUptoSaid : Prop := fnExactLocksForUptoRow.holds Try.pinned (OpenSpec.upto fnExactLocksForSpec)

end Rows
end Go.Proofs.Ytjmeeiofoioojaa
