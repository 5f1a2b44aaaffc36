/-
  DERIVED. GIVEN WITH THE SEED: THE CARDS: each row of YteoeojbeaehdpaaDoorRows.lean that lists a variable, with what it lists TIED to the program's text (the seventh form; the later family's looks); each row that meets fmt, with fmt's text TOLD by the authors' own Lean function (tested against real Go, not proved from fmt's source: count such statements apart). THE CARD IS WHAT COUNTS. Prove the row's statement (the work); the ties are given (YteoeojbeaehdpaaDoorTie.lean); close each card by the builder's one call (the guide's Derived/Test/ToyasCard.lean, 'card_holds'). Laid BY PROGRAM, IN A SANDBOX (cutbox-door.mjs). By AI agents, Wed Nov 11 2026. No macro, syntax, notation, axiom, sorry.
-/
import Derived.Test.YteoeojbeaehdpaaDoorRows
import GoSem.ClaimSeven
namespace Go.Proofs.YteoeojbeaehdpaaDoor
namespace Rows

/-- THE TIED CARD OF 'laws.FnExactValidTable'. -/
def fnExactValidTableCard : Claim7 := { stood := { row := fnExactValidTableRow, standIns := [], harness := (true, "3f72a500b3715ce102f354ec2e34e42f02a51b2fe721563e4337625eae4a59b8"), looks := false }, kinds := [], alts := [], laidByText := true, laidKinds := [.data], laidTests := true, laidLooks := .later }
def FnExactValidTableCardSaid : Prop := Claim7.holds Tryd.pinned (.plain (OpenSpec.ofChange fnExactValidTableSpec)) fnExactValidTableCard

/-- THE TIED CARD OF 'laws.FnExactHeldMode'. -/
def fnExactHeldModeCard : Claim7 := { stood := { row := fnExactHeldModeRow, standIns := [], harness := (true, "3f72a500b3715ce102f354ec2e34e42f02a51b2fe721563e4337625eae4a59b8"), looks := false }, kinds := [], alts := [], laidByText := true, laidKinds := [.data], laidTests := true, laidLooks := .later }
def FnExactHeldModeCardSaid : Prop := Claim7.holds Tryd.pinned (.plain (OpenSpec.ofChange fnExactHeldModeSpec)) fnExactHeldModeCard

/-- THE TIED CARD OF 'laws.FnExactLockBlockers'. -/
def fnExactLockBlockersCard : Claim7 := { stood := { row := fnExactLockBlockersRow, standIns := [], harness := (true, "3f72a500b3715ce102f354ec2e34e42f02a51b2fe721563e4337625eae4a59b8"), looks := false }, kinds := [], alts := [], laidByText := true, laidKinds := [.data, .data], laidTests := true, laidLooks := .later }
def FnExactLockBlockersCardSaid : Prop := Claim7.holds Tryd.pinned (.plain (OpenSpec.ofChange fnExactLockBlockersSpec)) fnExactLockBlockersCard

/-- THE TIED CARD OF 'laws.FnExactTakeLock'. -/
def fnExactTakeLockCard : Claim7 := { stood := { row := fnExactTakeLockRow, standIns := [], harness := (true, "3f72a500b3715ce102f354ec2e34e42f02a51b2fe721563e4337625eae4a59b8"), looks := false }, kinds := [], alts := [], laidByText := true, laidKinds := [.data, .data], laidTests := true, laidLooks := .later }
def FnExactTakeLockCardSaid : Prop := Claim7.holds Tryd.pinned (.plain (OpenSpec.ofChange fnExactTakeLockSpec)) fnExactTakeLockCard

/-- THE TIED CARD OF 'laws.FnExactFreeLocks'. -/
def fnExactFreeLocksCard : Claim7 := { stood := { row := fnExactFreeLocksRow, standIns := [], harness := (true, "3f72a500b3715ce102f354ec2e34e42f02a51b2fe721563e4337625eae4a59b8"), looks := false }, kinds := [], alts := [], laidByText := true, laidKinds := [.data], laidTests := true, laidLooks := .later }
def FnExactFreeLocksCardSaid : Prop := Claim7.holds Tryd.pinned (.plain (OpenSpec.ofChange fnExactFreeLocksSpec)) fnExactFreeLocksCard

/-- THE TIED CARD OF 'laws.FnExactAsksOf'. -/
def fnExactAsksOfCard : Claim7 := { stood := { row := fnExactAsksOfRow, standIns := [], harness := (true, "3f72a500b3715ce102f354ec2e34e42f02a51b2fe721563e4337625eae4a59b8"), looks := false }, kinds := [], alts := [], laidByText := true, laidKinds := [.data, .data], laidTests := true, laidLooks := .later }
def FnExactAsksOfCardSaid : Prop := Claim7.holds Tryd.pinned (.plain (OpenSpec.ofChange fnExactAsksOfSpec)) fnExactAsksOfCard

/-- THE TIED CARD OF 'laws.FnExactValidSteps'. -/
def fnExactValidStepsCard : Claim7 := { stood := { row := fnExactValidStepsRow, standIns := [], harness := (true, "3f72a500b3715ce102f354ec2e34e42f02a51b2fe721563e4337625eae4a59b8"), looks := false }, kinds := [], alts := [], laidByText := true, laidKinds := [.data, .data], laidTests := true, laidLooks := .later }
def FnExactValidStepsCardSaid : Prop := Claim7.holds Tryd.pinned (.plain (OpenSpec.ofChange fnExactValidStepsSpec)) fnExactValidStepsCard

/-- THE TIED CARD OF 'laws.FnExactTableAfter'. -/
def fnExactTableAfterCard : Claim7 := { stood := { row := fnExactTableAfterRow, standIns := [], harness := (true, "3f72a500b3715ce102f354ec2e34e42f02a51b2fe721563e4337625eae4a59b8"), looks := false }, kinds := [], alts := [], laidByText := true, laidKinds := [.data, .data], laidTests := true, laidLooks := .later }
def FnExactTableAfterCardSaid : Prop := Claim7.holds Tryd.pinned (.plain (OpenSpec.ofChange fnExactTableAfterSpec)) fnExactTableAfterCard

/-- THE TIED CARD OF 'laws.FnExactIsTwoPhase'. -/
def fnExactIsTwoPhaseCard : Claim7 := { stood := { row := fnExactIsTwoPhaseRow, standIns := [], harness := (true, "3f72a500b3715ce102f354ec2e34e42f02a51b2fe721563e4337625eae4a59b8"), looks := false }, kinds := [], alts := [], laidByText := true, laidKinds := [.data, .data], laidTests := true, laidLooks := .later }
def FnExactIsTwoPhaseCardSaid : Prop := Claim7.holds Tryd.pinned (.plain (OpenSpec.ofChange fnExactIsTwoPhaseSpec)) fnExactIsTwoPhaseCard

/-- THE TIED CARD OF 'laws.FnExactLockPoint'. -/
def fnExactLockPointCard : Claim7 := { stood := { row := fnExactLockPointRow, standIns := [], harness := (true, "3f72a500b3715ce102f354ec2e34e42f02a51b2fe721563e4337625eae4a59b8"), looks := false }, kinds := [], alts := [], laidByText := true, laidKinds := [.data, .data], laidTests := true, laidLooks := .later }
def FnExactLockPointCardSaid : Prop := Claim7.holds Tryd.pinned (.plain (OpenSpec.ofChange fnExactLockPointSpec)) fnExactLockPointCard

/-- THE TIED CARD OF 'laws.FnExactLockPointOrder'. -/
def fnExactLockPointOrderCard : Claim7 := { stood := { row := fnExactLockPointOrderRow, standIns := [], harness := (true, "3f72a500b3715ce102f354ec2e34e42f02a51b2fe721563e4337625eae4a59b8"), looks := false }, kinds := [], alts := [], laidByText := true, laidKinds := [.data, .data], laidTests := true, laidLooks := .later }
def FnExactLockPointOrderCardSaid : Prop := Claim7.holds Tryd.pinned (.plain (OpenSpec.ofChange fnExactLockPointOrderSpec)) fnExactLockPointOrderCard

/-- THE TIED CARD OF 'laws.FnExactAccessesOf'. -/
def fnExactAccessesOfCard : Claim7 := { stood := { row := fnExactAccessesOfRow, standIns := [], harness := (true, "3f72a500b3715ce102f354ec2e34e42f02a51b2fe721563e4337625eae4a59b8"), looks := false }, kinds := [], alts := [], laidByText := true, laidKinds := [.data, .data], laidTests := true, laidLooks := .later }
def FnExactAccessesOfCardSaid : Prop := Claim7.holds Tryd.pinned (.plain (OpenSpec.ofChange fnExactAccessesOfSpec)) fnExactAccessesOfCard

/-- THE SECOND FORM's CARD OF 'laws.FnExactValidTable'. -/
def fnExactValidTableUptoCard : Claim7 := { stood := { row := fnExactValidTableUptoRow, standIns := [], harness := (true, "3f72a500b3715ce102f354ec2e34e42f02a51b2fe721563e4337625eae4a59b8"), looks := false }, kinds := [], alts := [], laidByText := true, laidKinds := [.data], laidTests := true, laidLooks := .later }
def FnExactValidTableUptoCardSaid : Prop := Claim7.holds Tryd.pinned (.plain (OpenSpec.upto fnExactValidTableSpec)) fnExactValidTableUptoCard

/-- THE SECOND FORM's CARD OF 'laws.FnExactHeldMode'. -/
def fnExactHeldModeUptoCard : Claim7 := { stood := { row := fnExactHeldModeUptoRow, standIns := [], harness := (true, "3f72a500b3715ce102f354ec2e34e42f02a51b2fe721563e4337625eae4a59b8"), looks := false }, kinds := [], alts := [], laidByText := true, laidKinds := [.data], laidTests := true, laidLooks := .later }
def FnExactHeldModeUptoCardSaid : Prop := Claim7.holds Tryd.pinned (.plain (OpenSpec.upto fnExactHeldModeSpec)) fnExactHeldModeUptoCard

/-- THE SECOND FORM's CARD OF 'laws.FnExactLockBlockers'. -/
def fnExactLockBlockersUptoCard : Claim7 := { stood := { row := fnExactLockBlockersUptoRow, standIns := [], harness := (true, "3f72a500b3715ce102f354ec2e34e42f02a51b2fe721563e4337625eae4a59b8"), looks := false }, kinds := [], alts := [], laidByText := true, laidKinds := [.data, .data], laidTests := true, laidLooks := .later }
def FnExactLockBlockersUptoCardSaid : Prop := Claim7.holds Tryd.pinned (.plain (OpenSpec.upto fnExactLockBlockersSpec)) fnExactLockBlockersUptoCard

/-- THE SECOND FORM's CARD OF 'laws.FnExactTakeLock'. -/
def fnExactTakeLockUptoCard : Claim7 := { stood := { row := fnExactTakeLockUptoRow, standIns := [], harness := (true, "3f72a500b3715ce102f354ec2e34e42f02a51b2fe721563e4337625eae4a59b8"), looks := false }, kinds := [], alts := [], laidByText := true, laidKinds := [.data, .data], laidTests := true, laidLooks := .later }
def FnExactTakeLockUptoCardSaid : Prop := Claim7.holds Tryd.pinned (.plain (OpenSpec.upto fnExactTakeLockSpec)) fnExactTakeLockUptoCard

/-- THE SECOND FORM's CARD OF 'laws.FnExactFreeLocks'. -/
def fnExactFreeLocksUptoCard : Claim7 := { stood := { row := fnExactFreeLocksUptoRow, standIns := [], harness := (true, "3f72a500b3715ce102f354ec2e34e42f02a51b2fe721563e4337625eae4a59b8"), looks := false }, kinds := [], alts := [], laidByText := true, laidKinds := [.data], laidTests := true, laidLooks := .later }
def FnExactFreeLocksUptoCardSaid : Prop := Claim7.holds Tryd.pinned (.plain (OpenSpec.upto fnExactFreeLocksSpec)) fnExactFreeLocksUptoCard

/-- THE SECOND FORM's CARD OF 'laws.FnExactAsksOf'. -/
def fnExactAsksOfUptoCard : Claim7 := { stood := { row := fnExactAsksOfUptoRow, standIns := [], harness := (true, "3f72a500b3715ce102f354ec2e34e42f02a51b2fe721563e4337625eae4a59b8"), looks := false }, kinds := [], alts := [], laidByText := true, laidKinds := [.data, .data], laidTests := true, laidLooks := .later }
def FnExactAsksOfUptoCardSaid : Prop := Claim7.holds Tryd.pinned (.plain (OpenSpec.upto fnExactAsksOfSpec)) fnExactAsksOfUptoCard

/-- THE SECOND FORM's CARD OF 'laws.FnExactValidSteps'. -/
def fnExactValidStepsUptoCard : Claim7 := { stood := { row := fnExactValidStepsUptoRow, standIns := [], harness := (true, "3f72a500b3715ce102f354ec2e34e42f02a51b2fe721563e4337625eae4a59b8"), looks := false }, kinds := [], alts := [], laidByText := true, laidKinds := [.data, .data], laidTests := true, laidLooks := .later }
def FnExactValidStepsUptoCardSaid : Prop := Claim7.holds Tryd.pinned (.plain (OpenSpec.upto fnExactValidStepsSpec)) fnExactValidStepsUptoCard

/-- THE SECOND FORM's CARD OF 'laws.FnExactTableAfter'. -/
def fnExactTableAfterUptoCard : Claim7 := { stood := { row := fnExactTableAfterUptoRow, standIns := [], harness := (true, "3f72a500b3715ce102f354ec2e34e42f02a51b2fe721563e4337625eae4a59b8"), looks := false }, kinds := [], alts := [], laidByText := true, laidKinds := [.data, .data], laidTests := true, laidLooks := .later }
def FnExactTableAfterUptoCardSaid : Prop := Claim7.holds Tryd.pinned (.plain (OpenSpec.upto fnExactTableAfterSpec)) fnExactTableAfterUptoCard

/-- THE SECOND FORM's CARD OF 'laws.FnExactIsTwoPhase'. -/
def fnExactIsTwoPhaseUptoCard : Claim7 := { stood := { row := fnExactIsTwoPhaseUptoRow, standIns := [], harness := (true, "3f72a500b3715ce102f354ec2e34e42f02a51b2fe721563e4337625eae4a59b8"), looks := false }, kinds := [], alts := [], laidByText := true, laidKinds := [.data, .data], laidTests := true, laidLooks := .later }
def FnExactIsTwoPhaseUptoCardSaid : Prop := Claim7.holds Tryd.pinned (.plain (OpenSpec.upto fnExactIsTwoPhaseSpec)) fnExactIsTwoPhaseUptoCard

/-- THE SECOND FORM's CARD OF 'laws.FnExactLockPoint'. -/
def fnExactLockPointUptoCard : Claim7 := { stood := { row := fnExactLockPointUptoRow, standIns := [], harness := (true, "3f72a500b3715ce102f354ec2e34e42f02a51b2fe721563e4337625eae4a59b8"), looks := false }, kinds := [], alts := [], laidByText := true, laidKinds := [.data, .data], laidTests := true, laidLooks := .later }
def FnExactLockPointUptoCardSaid : Prop := Claim7.holds Tryd.pinned (.plain (OpenSpec.upto fnExactLockPointSpec)) fnExactLockPointUptoCard

/-- THE SECOND FORM's CARD OF 'laws.FnExactLockPointOrder'. -/
def fnExactLockPointOrderUptoCard : Claim7 := { stood := { row := fnExactLockPointOrderUptoRow, standIns := [], harness := (true, "3f72a500b3715ce102f354ec2e34e42f02a51b2fe721563e4337625eae4a59b8"), looks := false }, kinds := [], alts := [], laidByText := true, laidKinds := [.data, .data], laidTests := true, laidLooks := .later }
def FnExactLockPointOrderUptoCardSaid : Prop := Claim7.holds Tryd.pinned (.plain (OpenSpec.upto fnExactLockPointOrderSpec)) fnExactLockPointOrderUptoCard

/-- THE SECOND FORM's CARD OF 'laws.FnExactAccessesOf'. -/
def fnExactAccessesOfUptoCard : Claim7 := { stood := { row := fnExactAccessesOfUptoRow, standIns := [], harness := (true, "3f72a500b3715ce102f354ec2e34e42f02a51b2fe721563e4337625eae4a59b8"), looks := false }, kinds := [], alts := [], laidByText := true, laidKinds := [.data, .data], laidTests := true, laidLooks := .later }
def FnExactAccessesOfUptoCardSaid : Prop := Claim7.holds Tryd.pinned (.plain (OpenSpec.upto fnExactAccessesOfSpec)) fnExactAccessesOfUptoCard
end Rows
end Go.Proofs.YteoeojbeaehdpaaDoor
