/-
  NARROWER THAN 'FOR EVERY INPUT', by the rows' own cells (each row's printed sentence says how): FnExactTakeAll: laid · FnExactMayRead: laid · FnExactMayWrite: laid · FnExactGrainFault: laid · FnExactAlongFault: laid · FnExactGoesAlong: laid · FnExactNextAlong: laid.
  DERIVED. THE GIVEN ROWS OF THIS SEAT. 7 by the template 'for every input the law returns true; each argument reads behind the call as it read before'; 0 by the template 'total and deterministic' (their statements: YtfgcjdhcnalmmaaDoorTotals.lean).
  GIVEN WITH THE SEED: the statements are not yours to turn. If you find one false, say at which input.
  Laid BY PROGRAM, IN A SANDBOX (cutbox-rows.mjs): the forced cells as the released guide's own fill.sh prints them over the translation 06b8d161a79581be… (all of the seat's roots in one cut). By AI agents, Wed Nov 11 2026. No macro, syntax, notation, axiom, sorry.
-/
import Derived.Test.YtfgcjdhcnalmmaaDoorChecked
import GoSem.Claim
import GoSem.ClaimJoined
import GoSem.ClaimMapViews
import Derived.JoinedTies
import Derived.KernelRfl
namespace Go.Proofs.YtfgcjdhcnalmmaaDoor
/- THE CELL 'sum', in the pinned program and in every row, IS THE sha256 OF THE DUMP (.gsa) THAT YtfgcjdhcnalmmaaDoorProg.lean LOADS. Nothing in Lean hashes anything: it is a label: what it is worth is what the hold of that sum in a sandbox is worth. -/
noncomputable def Tryd.pinned : Pinned := { name := "ytfgcjdhcnalmmaadoor", sum := "06b8d161a79581becf4be7e495a6e7d7e71bb9cc5d8a2204adc61e28b528c752", checked := Tryd.checked }
namespace Rows
def none {H : Type} : Left H := { results := [], args := [] }

/- WHAT THE LISTED PACKAGE-LEVEL VARIABLES READ AS WHEN THE CALL BEGINS. Each datum BY PROGRAM (the guide's laid-datum.mjs) off the statement by which the dump's own 'gosem.cut.vars' lays the variable. In a bare row this is a premise. The card (YtfgcjdhcnalmmaaDoorCards.lean) ties it to the program's text. -/
def laid_loop_example_treelocks_impl_together {H : Type} : DataW H := .agg [.agg [.lit (.bool true), .lit (.bool true), .lit (.bool true), .lit (.bool true), .lit (.bool true), .lit (.bool true)], .agg [.lit (.bool true), .lit (.bool true), .lit (.bool true), .lit (.bool true), .lit (.bool true), .lit (.bool false)], .agg [.lit (.bool true), .lit (.bool true), .lit (.bool true), .lit (.bool false), .lit (.bool false), .lit (.bool false)], .agg [.lit (.bool true), .lit (.bool true), .lit (.bool false), .lit (.bool true), .lit (.bool false), .lit (.bool false)], .agg [.lit (.bool true), .lit (.bool true), .lit (.bool false), .lit (.bool false), .lit (.bool false), .lit (.bool false)], .agg [.lit (.bool true), .lit (.bool false), .lit (.bool false), .lit (.bool false), .lit (.bool false), .lit (.bool false)]]
def laid_loop_example_treelocks_impl_joined {H : Type} : DataW H := .agg [.agg [.lit (.int .i64 0), .lit (.int .i64 1), .lit (.int .i64 2), .lit (.int .i64 3), .lit (.int .i64 4), .lit (.int .i64 5)], .agg [.lit (.int .i64 1), .lit (.int .i64 1), .lit (.int .i64 2), .lit (.int .i64 3), .lit (.int .i64 4), .lit (.int .i64 5)], .agg [.lit (.int .i64 2), .lit (.int .i64 2), .lit (.int .i64 2), .lit (.int .i64 4), .lit (.int .i64 4), .lit (.int .i64 5)], .agg [.lit (.int .i64 3), .lit (.int .i64 3), .lit (.int .i64 4), .lit (.int .i64 3), .lit (.int .i64 4), .lit (.int .i64 5)], .agg [.lit (.int .i64 4), .lit (.int .i64 4), .lit (.int .i64 4), .lit (.int .i64 4), .lit (.int .i64 4), .lit (.int .i64 5)], .agg [.lit (.int .i64 5), .lit (.int .i64 5), .lit (.int .i64 5), .lit (.int .i64 5), .lit (.int .i64 5), .lit (.int .i64 5)]]

/-- 'laws.FnExactTakeAll': WHATEVER THE INPUT: true; the input reads as it did. -/
def fnExactTakeAllSpec : ChangeSpec := { name := "fnExactTakeAll", vars := ["loop.example/treelocks/impl.together", "loop.example/treelocks/impl.joined"], fn := fun _ => fun
  | [d1, d2, g1, g2] => { results := [.lit (.bool true)], args := [d1, d2], vars := [g1, g2] }
  | _ => none }
def fnExactTakeAllRow : OpenClaim := { program := "ytfgcjdhcnalmmaadoor", sum := "06b8d161a79581becf4be7e495a6e7d7e71bb9cc5d8a2204adc61e28b528c752", func := "loop.example/treelocks/laws.FnExactTakeAll", spec := "fnExactTakeAll", unfollowed := true, recurses := true, named := ["loop.example/treelocks/impl.together", "loop.example/treelocks/impl.joined"], apart := false, laid := [("loop.example/treelocks/impl.together", laid_loop_example_treelocks_impl_together), ("loop.example/treelocks/impl.joined", laid_loop_example_treelocks_impl_joined)] }
def FnExactTakeAllSaid : Prop := fnExactTakeAllRow.holds Tryd.pinned (OpenSpec.ofChange fnExactTakeAllSpec)

/-- ITS FALSE NEIGHBOUR: 'it returns false'. Refute it at one input. -/
def fnExactTakeAllWrong : ChangeSpec := { name := "fnExactTakeAll", vars := ["loop.example/treelocks/impl.together", "loop.example/treelocks/impl.joined"], fn := fun _ => fun
  | [d1, d2, g1, g2] => { results := [.lit (.bool false)], args := [d1, d2], vars := [g1, g2] }
  | _ => none }
def FnExactTakeAllWrongFalsely : Prop := fnExactTakeAllRow.holds Tryd.pinned (OpenSpec.ofChange fnExactTakeAllWrong)

/-- 'laws.FnExactMayRead': WHATEVER THE INPUT: true; the input reads as it did. -/
def fnExactMayReadSpec : ChangeSpec := { name := "fnExactMayRead", vars := ["loop.example/treelocks/impl.together", "loop.example/treelocks/impl.joined"], fn := fun _ => fun
  | [d1, d2, d3, d4, g1, g2] => { results := [.lit (.bool true)], args := [d1, d2, d3, d4], vars := [g1, g2] }
  | _ => none }
def fnExactMayReadRow : OpenClaim := { program := "ytfgcjdhcnalmmaadoor", sum := "06b8d161a79581becf4be7e495a6e7d7e71bb9cc5d8a2204adc61e28b528c752", func := "loop.example/treelocks/laws.FnExactMayRead", spec := "fnExactMayRead", unfollowed := true, recurses := true, named := ["loop.example/treelocks/impl.together", "loop.example/treelocks/impl.joined"], apart := false, laid := [("loop.example/treelocks/impl.together", laid_loop_example_treelocks_impl_together), ("loop.example/treelocks/impl.joined", laid_loop_example_treelocks_impl_joined)] }
def FnExactMayReadSaid : Prop := fnExactMayReadRow.holds Tryd.pinned (OpenSpec.ofChange fnExactMayReadSpec)

/-- ITS FALSE NEIGHBOUR: 'it returns false'. Refute it at one input. -/
def fnExactMayReadWrong : ChangeSpec := { name := "fnExactMayRead", vars := ["loop.example/treelocks/impl.together", "loop.example/treelocks/impl.joined"], fn := fun _ => fun
  | [d1, d2, d3, d4, g1, g2] => { results := [.lit (.bool false)], args := [d1, d2, d3, d4], vars := [g1, g2] }
  | _ => none }
def FnExactMayReadWrongFalsely : Prop := fnExactMayReadRow.holds Tryd.pinned (OpenSpec.ofChange fnExactMayReadWrong)

/-- 'laws.FnExactMayWrite': WHATEVER THE INPUT: true; the input reads as it did. -/
def fnExactMayWriteSpec : ChangeSpec := { name := "fnExactMayWrite", vars := ["loop.example/treelocks/impl.together", "loop.example/treelocks/impl.joined"], fn := fun _ => fun
  | [d1, d2, d3, d4, g1, g2] => { results := [.lit (.bool true)], args := [d1, d2, d3, d4], vars := [g1, g2] }
  | _ => none }
def fnExactMayWriteRow : OpenClaim := { program := "ytfgcjdhcnalmmaadoor", sum := "06b8d161a79581becf4be7e495a6e7d7e71bb9cc5d8a2204adc61e28b528c752", func := "loop.example/treelocks/laws.FnExactMayWrite", spec := "fnExactMayWrite", unfollowed := true, recurses := true, named := ["loop.example/treelocks/impl.together", "loop.example/treelocks/impl.joined"], apart := false, laid := [("loop.example/treelocks/impl.together", laid_loop_example_treelocks_impl_together), ("loop.example/treelocks/impl.joined", laid_loop_example_treelocks_impl_joined)] }
def FnExactMayWriteSaid : Prop := fnExactMayWriteRow.holds Tryd.pinned (OpenSpec.ofChange fnExactMayWriteSpec)

/-- ITS FALSE NEIGHBOUR: 'it returns false'. Refute it at one input. -/
def fnExactMayWriteWrong : ChangeSpec := { name := "fnExactMayWrite", vars := ["loop.example/treelocks/impl.together", "loop.example/treelocks/impl.joined"], fn := fun _ => fun
  | [d1, d2, d3, d4, g1, g2] => { results := [.lit (.bool false)], args := [d1, d2, d3, d4], vars := [g1, g2] }
  | _ => none }
def FnExactMayWriteWrongFalsely : Prop := fnExactMayWriteRow.holds Tryd.pinned (OpenSpec.ofChange fnExactMayWriteWrong)

/-- 'laws.FnExactGrainFault': WHATEVER THE INPUT: true; the input reads as it did. -/
def fnExactGrainFaultSpec : ChangeSpec := { name := "fnExactGrainFault", vars := ["loop.example/treelocks/impl.together", "loop.example/treelocks/impl.joined"], fn := fun _ => fun
  | [d1, d2, d3, g1, g2] => { results := [.lit (.bool true)], args := [d1, d2, d3], vars := [g1, g2] }
  | _ => none }
def fnExactGrainFaultRow : OpenClaim := { program := "ytfgcjdhcnalmmaadoor", sum := "06b8d161a79581becf4be7e495a6e7d7e71bb9cc5d8a2204adc61e28b528c752", func := "loop.example/treelocks/laws.FnExactGrainFault", spec := "fnExactGrainFault", unfollowed := true, recurses := true, named := ["loop.example/treelocks/impl.together", "loop.example/treelocks/impl.joined"], apart := false, laid := [("loop.example/treelocks/impl.together", laid_loop_example_treelocks_impl_together), ("loop.example/treelocks/impl.joined", laid_loop_example_treelocks_impl_joined)] }
def FnExactGrainFaultSaid : Prop := fnExactGrainFaultRow.holds Tryd.pinned (OpenSpec.ofChange fnExactGrainFaultSpec)

/-- ITS FALSE NEIGHBOUR: 'it returns false'. Refute it at one input. -/
def fnExactGrainFaultWrong : ChangeSpec := { name := "fnExactGrainFault", vars := ["loop.example/treelocks/impl.together", "loop.example/treelocks/impl.joined"], fn := fun _ => fun
  | [d1, d2, d3, g1, g2] => { results := [.lit (.bool false)], args := [d1, d2, d3], vars := [g1, g2] }
  | _ => none }
def FnExactGrainFaultWrongFalsely : Prop := fnExactGrainFaultRow.holds Tryd.pinned (OpenSpec.ofChange fnExactGrainFaultWrong)

/-- 'laws.FnExactAlongFault': WHATEVER THE INPUT: true; the input reads as it did. -/
def fnExactAlongFaultSpec : ChangeSpec := { name := "fnExactAlongFault", vars := ["loop.example/treelocks/impl.together", "loop.example/treelocks/impl.joined"], fn := fun _ => fun
  | [d1, d2, d3, g1, g2] => { results := [.lit (.bool true)], args := [d1, d2, d3], vars := [g1, g2] }
  | _ => none }
def fnExactAlongFaultRow : OpenClaim := { program := "ytfgcjdhcnalmmaadoor", sum := "06b8d161a79581becf4be7e495a6e7d7e71bb9cc5d8a2204adc61e28b528c752", func := "loop.example/treelocks/laws.FnExactAlongFault", spec := "fnExactAlongFault", unfollowed := true, recurses := true, named := ["loop.example/treelocks/impl.together", "loop.example/treelocks/impl.joined"], apart := false, laid := [("loop.example/treelocks/impl.together", laid_loop_example_treelocks_impl_together), ("loop.example/treelocks/impl.joined", laid_loop_example_treelocks_impl_joined)] }
def FnExactAlongFaultSaid : Prop := fnExactAlongFaultRow.holds Tryd.pinned (OpenSpec.ofChange fnExactAlongFaultSpec)

/-- ITS FALSE NEIGHBOUR: 'it returns false'. Refute it at one input. -/
def fnExactAlongFaultWrong : ChangeSpec := { name := "fnExactAlongFault", vars := ["loop.example/treelocks/impl.together", "loop.example/treelocks/impl.joined"], fn := fun _ => fun
  | [d1, d2, d3, g1, g2] => { results := [.lit (.bool false)], args := [d1, d2, d3], vars := [g1, g2] }
  | _ => none }
def FnExactAlongFaultWrongFalsely : Prop := fnExactAlongFaultRow.holds Tryd.pinned (OpenSpec.ofChange fnExactAlongFaultWrong)

/-- 'laws.FnExactGoesAlong': WHATEVER THE INPUT: true; the input reads as it did. -/
def fnExactGoesAlongSpec : ChangeSpec := { name := "fnExactGoesAlong", vars := ["loop.example/treelocks/impl.together", "loop.example/treelocks/impl.joined"], fn := fun _ => fun
  | [d1, d2, g1, g2] => { results := [.lit (.bool true)], args := [d1, d2], vars := [g1, g2] }
  | _ => none }
def fnExactGoesAlongRow : OpenClaim := { program := "ytfgcjdhcnalmmaadoor", sum := "06b8d161a79581becf4be7e495a6e7d7e71bb9cc5d8a2204adc61e28b528c752", func := "loop.example/treelocks/laws.FnExactGoesAlong", spec := "fnExactGoesAlong", unfollowed := true, recurses := true, named := ["loop.example/treelocks/impl.together", "loop.example/treelocks/impl.joined"], apart := false, laid := [("loop.example/treelocks/impl.together", laid_loop_example_treelocks_impl_together), ("loop.example/treelocks/impl.joined", laid_loop_example_treelocks_impl_joined)] }
def FnExactGoesAlongSaid : Prop := fnExactGoesAlongRow.holds Tryd.pinned (OpenSpec.ofChange fnExactGoesAlongSpec)

/-- ITS FALSE NEIGHBOUR: 'it returns false'. Refute it at one input. -/
def fnExactGoesAlongWrong : ChangeSpec := { name := "fnExactGoesAlong", vars := ["loop.example/treelocks/impl.together", "loop.example/treelocks/impl.joined"], fn := fun _ => fun
  | [d1, d2, g1, g2] => { results := [.lit (.bool false)], args := [d1, d2], vars := [g1, g2] }
  | _ => none }
def FnExactGoesAlongWrongFalsely : Prop := fnExactGoesAlongRow.holds Tryd.pinned (OpenSpec.ofChange fnExactGoesAlongWrong)

/-- 'laws.FnExactNextAlong': WHATEVER THE INPUT: true; the input reads as it did. -/
def fnExactNextAlongSpec : ChangeSpec := { name := "fnExactNextAlong", vars := ["loop.example/treelocks/impl.together", "loop.example/treelocks/impl.joined"], fn := fun _ => fun
  | [d1, d2, d3, g1, g2] => { results := [.lit (.bool true)], args := [d1, d2, d3], vars := [g1, g2] }
  | _ => none }
def fnExactNextAlongRow : OpenClaim := { program := "ytfgcjdhcnalmmaadoor", sum := "06b8d161a79581becf4be7e495a6e7d7e71bb9cc5d8a2204adc61e28b528c752", func := "loop.example/treelocks/laws.FnExactNextAlong", spec := "fnExactNextAlong", unfollowed := true, recurses := true, named := ["loop.example/treelocks/impl.together", "loop.example/treelocks/impl.joined"], apart := false, laid := [("loop.example/treelocks/impl.together", laid_loop_example_treelocks_impl_together), ("loop.example/treelocks/impl.joined", laid_loop_example_treelocks_impl_joined)] }
def FnExactNextAlongSaid : Prop := fnExactNextAlongRow.holds Tryd.pinned (OpenSpec.ofChange fnExactNextAlongSpec)

/-- ITS FALSE NEIGHBOUR: 'it returns false'. Refute it at one input. -/
def fnExactNextAlongWrong : ChangeSpec := { name := "fnExactNextAlong", vars := ["loop.example/treelocks/impl.together", "loop.example/treelocks/impl.joined"], fn := fun _ => fun
  | [d1, d2, d3, g1, g2] => { results := [.lit (.bool false)], args := [d1, d2, d3], vars := [g1, g2] }
  | _ => none }
def FnExactNextAlongWrongFalsely : Prop := fnExactNextAlongRow.holds Tryd.pinned (OpenSpec.ofChange fnExactNextAlongWrong)

/- THE SECOND FORM. 'bulk': how many values and letters a reading holds, each counted each time it is reached (what is shared counts as often as it is met; a slice's spare places count too). A statement '..UptoSaid' is the law's where the arguments, and the package variables that the reading takes, are together of bulk at most 1048576: NARROWER than '..Said'. Prove '..Said' where nothing that the law and all that it calls make is longer than what came in: it says more and counts as full. Else prove '..UptoSaid'. A law counts once. -/
mutual
def uptoBulk {H : Type} : DataW H → Nat
  | .lit (.string bytes) => bytes.length + 1
  | .lit _ => 1
  | .nil => 1
  | .ptr d => uptoBulk d + 1
  | .slice elems spare => uptoBulkAll elems + uptoBulkAll spare + 1
  | .agg parts => uptoBulkAll parts + 1
  | .iface _ d => uptoBulk d + 1
  | .map entries => uptoBulkEntries entries + 1
  | .held _ => 1
def uptoBulkAll {H : Type} : List (DataW H) → Nat
  | [] => 0
  | d :: r => uptoBulk d + uptoBulkAll r
def uptoBulkEntries {H : Type} : List (Lit × DataW H) → Nat
  | [] => 0
  | x :: r => uptoBulkEntry x + uptoBulkEntries r
def uptoBulkEntry {H : Type} : Lit × DataW H → Nat
  | (.string bytes, d) => bytes.length + uptoBulk d + 1
  | (_, d) => uptoBulk d + 1
 end
def uptoSmall : (H : Type) → List (DataW H) → Bool := fun _ ds => decide (uptoBulkAll ds ≤ 1048576)
def OpenSpec.upto (s : _root_.Go.ChangeSpec) : _root_.Go.OpenSpec := { _root_.Go.OpenSpec.ofChange s with cond := some uptoSmall }

/-- 'laws.FnExactTakeAll', WHERE WHAT IT READS IS OF BULK AT MOST 1048576: true; the input reads as it did. -/
def fnExactTakeAllUptoRow : OpenClaim := { program := "ytfgcjdhcnalmmaadoor", sum := "06b8d161a79581becf4be7e495a6e7d7e71bb9cc5d8a2204adc61e28b528c752", func := "loop.example/treelocks/laws.FnExactTakeAll", spec := "fnExactTakeAll", unfollowed := true, recurses := true, named := ["loop.example/treelocks/impl.together", "loop.example/treelocks/impl.joined"], apart := false, laid := [("loop.example/treelocks/impl.together", laid_loop_example_treelocks_impl_together), ("loop.example/treelocks/impl.joined", laid_loop_example_treelocks_impl_joined)], narrowed := true }
def FnExactTakeAllUptoSaid : Prop := fnExactTakeAllUptoRow.holds Tryd.pinned (OpenSpec.upto fnExactTakeAllSpec)

/-- 'laws.FnExactMayRead', WHERE WHAT IT READS IS OF BULK AT MOST 1048576: true; the input reads as it did. -/
def fnExactMayReadUptoRow : OpenClaim := { program := "ytfgcjdhcnalmmaadoor", sum := "06b8d161a79581becf4be7e495a6e7d7e71bb9cc5d8a2204adc61e28b528c752", func := "loop.example/treelocks/laws.FnExactMayRead", spec := "fnExactMayRead", unfollowed := true, recurses := true, named := ["loop.example/treelocks/impl.together", "loop.example/treelocks/impl.joined"], apart := false, laid := [("loop.example/treelocks/impl.together", laid_loop_example_treelocks_impl_together), ("loop.example/treelocks/impl.joined", laid_loop_example_treelocks_impl_joined)], narrowed := true }
def FnExactMayReadUptoSaid : Prop := fnExactMayReadUptoRow.holds Tryd.pinned (OpenSpec.upto fnExactMayReadSpec)

/-- 'laws.FnExactMayWrite', WHERE WHAT IT READS IS OF BULK AT MOST 1048576: true; the input reads as it did. -/
def fnExactMayWriteUptoRow : OpenClaim := { program := "ytfgcjdhcnalmmaadoor", sum := "06b8d161a79581becf4be7e495a6e7d7e71bb9cc5d8a2204adc61e28b528c752", func := "loop.example/treelocks/laws.FnExactMayWrite", spec := "fnExactMayWrite", unfollowed := true, recurses := true, named := ["loop.example/treelocks/impl.together", "loop.example/treelocks/impl.joined"], apart := false, laid := [("loop.example/treelocks/impl.together", laid_loop_example_treelocks_impl_together), ("loop.example/treelocks/impl.joined", laid_loop_example_treelocks_impl_joined)], narrowed := true }
def FnExactMayWriteUptoSaid : Prop := fnExactMayWriteUptoRow.holds Tryd.pinned (OpenSpec.upto fnExactMayWriteSpec)

/-- 'laws.FnExactGrainFault', WHERE WHAT IT READS IS OF BULK AT MOST 1048576: true; the input reads as it did. -/
def fnExactGrainFaultUptoRow : OpenClaim := { program := "ytfgcjdhcnalmmaadoor", sum := "06b8d161a79581becf4be7e495a6e7d7e71bb9cc5d8a2204adc61e28b528c752", func := "loop.example/treelocks/laws.FnExactGrainFault", spec := "fnExactGrainFault", unfollowed := true, recurses := true, named := ["loop.example/treelocks/impl.together", "loop.example/treelocks/impl.joined"], apart := false, laid := [("loop.example/treelocks/impl.together", laid_loop_example_treelocks_impl_together), ("loop.example/treelocks/impl.joined", laid_loop_example_treelocks_impl_joined)], narrowed := true }
def FnExactGrainFaultUptoSaid : Prop := fnExactGrainFaultUptoRow.holds Tryd.pinned (OpenSpec.upto fnExactGrainFaultSpec)

/-- 'laws.FnExactAlongFault', WHERE WHAT IT READS IS OF BULK AT MOST 1048576: true; the input reads as it did. -/
def fnExactAlongFaultUptoRow : OpenClaim := { program := "ytfgcjdhcnalmmaadoor", sum := "06b8d161a79581becf4be7e495a6e7d7e71bb9cc5d8a2204adc61e28b528c752", func := "loop.example/treelocks/laws.FnExactAlongFault", spec := "fnExactAlongFault", unfollowed := true, recurses := true, named := ["loop.example/treelocks/impl.together", "loop.example/treelocks/impl.joined"], apart := false, laid := [("loop.example/treelocks/impl.together", laid_loop_example_treelocks_impl_together), ("loop.example/treelocks/impl.joined", laid_loop_example_treelocks_impl_joined)], narrowed := true }
def FnExactAlongFaultUptoSaid : Prop := fnExactAlongFaultUptoRow.holds Tryd.pinned (OpenSpec.upto fnExactAlongFaultSpec)

/-- 'laws.FnExactGoesAlong', WHERE WHAT IT READS IS OF BULK AT MOST 1048576: true; the input reads as it did. -/
def fnExactGoesAlongUptoRow : OpenClaim := { program := "ytfgcjdhcnalmmaadoor", sum := "06b8d161a79581becf4be7e495a6e7d7e71bb9cc5d8a2204adc61e28b528c752", func := "loop.example/treelocks/laws.FnExactGoesAlong", spec := "fnExactGoesAlong", unfollowed := true, recurses := true, named := ["loop.example/treelocks/impl.together", "loop.example/treelocks/impl.joined"], apart := false, laid := [("loop.example/treelocks/impl.together", laid_loop_example_treelocks_impl_together), ("loop.example/treelocks/impl.joined", laid_loop_example_treelocks_impl_joined)], narrowed := true }
def FnExactGoesAlongUptoSaid : Prop := fnExactGoesAlongUptoRow.holds Tryd.pinned (OpenSpec.upto fnExactGoesAlongSpec)

/-- 'laws.FnExactNextAlong', WHERE WHAT IT READS IS OF BULK AT MOST 1048576: true; the input reads as it did. -/
def fnExactNextAlongUptoRow : OpenClaim := { program := "ytfgcjdhcnalmmaadoor", sum := "06b8d161a79581becf4be7e495a6e7d7e71bb9cc5d8a2204adc61e28b528c752", func := "loop.example/treelocks/laws.FnExactNextAlong", spec := "fnExactNextAlong", unfollowed := true, recurses := true, named := ["loop.example/treelocks/impl.together", "loop.example/treelocks/impl.joined"], apart := false, laid := [("loop.example/treelocks/impl.together", laid_loop_example_treelocks_impl_together), ("loop.example/treelocks/impl.joined", laid_loop_example_treelocks_impl_joined)], narrowed := true }
def FnExactNextAlongUptoSaid : Prop := fnExactNextAlongUptoRow.holds Tryd.pinned (OpenSpec.upto fnExactNextAlongSpec)

end Rows
end Go.Proofs.YtfgcjdhcnalmmaaDoor
