/-
  DERIVED. GIVEN WITH THE SEED: THE CARDS: each row of YtfgcjdhcnalmmaaDoorRows.lean that lists a variable, with what it lists TIED to the program's text (the seventh form; the later family's looks); each row that meets fmt, with fmt's text TOLD by the authors' own Lean function (tested against real Go, not proved from fmt's source: count such statements apart). THE CARD IS WHAT COUNTS. Prove the row's statement (the work); the ties are given (YtfgcjdhcnalmmaaDoorTie.lean); close each card by the builder's one call (the guide's Derived/Test/ToyasCard.lean, 'card_holds'). Laid BY PROGRAM, IN A SANDBOX (cutbox-door.mjs). By AI agents, Wed Nov 11 2026. No macro, syntax, notation, axiom, sorry.
-/
import Derived.Test.YtfgcjdhcnalmmaaDoorRows
import GoSem.ClaimSeven
namespace Go.Proofs.YtfgcjdhcnalmmaaDoor
namespace Rows

/-- THE TIED CARD OF 'laws.FnExactTakeAll'. -/
def fnExactTakeAllCard : Claim7 := { stood := { row := fnExactTakeAllRow, standIns := [], harness := (true, "5e997a34f466513a0bfbdb8ed734a63ac62055f441e203f0c25a288201788686"), looks := false }, kinds := [], alts := [], laidByText := true, laidKinds := [.data, .data], laidTests := true, laidLooks := .later }
def FnExactTakeAllCardSaid : Prop := Claim7.holds Tryd.pinned (.plain (OpenSpec.ofChange fnExactTakeAllSpec)) fnExactTakeAllCard

/-- THE TIED CARD OF 'laws.FnExactMayRead'. -/
def fnExactMayReadCard : Claim7 := { stood := { row := fnExactMayReadRow, standIns := [], harness := (true, "5e997a34f466513a0bfbdb8ed734a63ac62055f441e203f0c25a288201788686"), looks := false }, kinds := [], alts := [], laidByText := true, laidKinds := [.data, .data], laidTests := true, laidLooks := .later }
def FnExactMayReadCardSaid : Prop := Claim7.holds Tryd.pinned (.plain (OpenSpec.ofChange fnExactMayReadSpec)) fnExactMayReadCard

/-- THE TIED CARD OF 'laws.FnExactMayWrite'. -/
def fnExactMayWriteCard : Claim7 := { stood := { row := fnExactMayWriteRow, standIns := [], harness := (true, "5e997a34f466513a0bfbdb8ed734a63ac62055f441e203f0c25a288201788686"), looks := false }, kinds := [], alts := [], laidByText := true, laidKinds := [.data, .data], laidTests := true, laidLooks := .later }
def FnExactMayWriteCardSaid : Prop := Claim7.holds Tryd.pinned (.plain (OpenSpec.ofChange fnExactMayWriteSpec)) fnExactMayWriteCard

/-- THE TIED CARD OF 'laws.FnExactGrainFault'. -/
def fnExactGrainFaultCard : Claim7 := { stood := { row := fnExactGrainFaultRow, standIns := [], harness := (true, "5e997a34f466513a0bfbdb8ed734a63ac62055f441e203f0c25a288201788686"), looks := false }, kinds := [], alts := [], laidByText := true, laidKinds := [.data, .data], laidTests := true, laidLooks := .later }
def FnExactGrainFaultCardSaid : Prop := Claim7.holds Tryd.pinned (.plain (OpenSpec.ofChange fnExactGrainFaultSpec)) fnExactGrainFaultCard

/-- THE TIED CARD OF 'laws.FnExactAlongFault'. -/
def fnExactAlongFaultCard : Claim7 := { stood := { row := fnExactAlongFaultRow, standIns := [], harness := (true, "5e997a34f466513a0bfbdb8ed734a63ac62055f441e203f0c25a288201788686"), looks := false }, kinds := [], alts := [], laidByText := true, laidKinds := [.data, .data], laidTests := true, laidLooks := .later }
def FnExactAlongFaultCardSaid : Prop := Claim7.holds Tryd.pinned (.plain (OpenSpec.ofChange fnExactAlongFaultSpec)) fnExactAlongFaultCard

/-- THE TIED CARD OF 'laws.FnExactGoesAlong'. -/
def fnExactGoesAlongCard : Claim7 := { stood := { row := fnExactGoesAlongRow, standIns := [], harness := (true, "5e997a34f466513a0bfbdb8ed734a63ac62055f441e203f0c25a288201788686"), looks := false }, kinds := [], alts := [], laidByText := true, laidKinds := [.data, .data], laidTests := true, laidLooks := .later }
def FnExactGoesAlongCardSaid : Prop := Claim7.holds Tryd.pinned (.plain (OpenSpec.ofChange fnExactGoesAlongSpec)) fnExactGoesAlongCard

/-- THE TIED CARD OF 'laws.FnExactNextAlong'. -/
def fnExactNextAlongCard : Claim7 := { stood := { row := fnExactNextAlongRow, standIns := [], harness := (true, "5e997a34f466513a0bfbdb8ed734a63ac62055f441e203f0c25a288201788686"), looks := false }, kinds := [], alts := [], laidByText := true, laidKinds := [.data, .data], laidTests := true, laidLooks := .later }
def FnExactNextAlongCardSaid : Prop := Claim7.holds Tryd.pinned (.plain (OpenSpec.ofChange fnExactNextAlongSpec)) fnExactNextAlongCard

/-- THE SECOND FORM's CARD OF 'laws.FnExactTakeAll'. -/
def fnExactTakeAllUptoCard : Claim7 := { stood := { row := fnExactTakeAllUptoRow, standIns := [], harness := (true, "5e997a34f466513a0bfbdb8ed734a63ac62055f441e203f0c25a288201788686"), looks := false }, kinds := [], alts := [], laidByText := true, laidKinds := [.data, .data], laidTests := true, laidLooks := .later }
def FnExactTakeAllUptoCardSaid : Prop := Claim7.holds Tryd.pinned (.plain (OpenSpec.upto fnExactTakeAllSpec)) fnExactTakeAllUptoCard

/-- THE SECOND FORM's CARD OF 'laws.FnExactMayRead'. -/
def fnExactMayReadUptoCard : Claim7 := { stood := { row := fnExactMayReadUptoRow, standIns := [], harness := (true, "5e997a34f466513a0bfbdb8ed734a63ac62055f441e203f0c25a288201788686"), looks := false }, kinds := [], alts := [], laidByText := true, laidKinds := [.data, .data], laidTests := true, laidLooks := .later }
def FnExactMayReadUptoCardSaid : Prop := Claim7.holds Tryd.pinned (.plain (OpenSpec.upto fnExactMayReadSpec)) fnExactMayReadUptoCard

/-- THE SECOND FORM's CARD OF 'laws.FnExactMayWrite'. -/
def fnExactMayWriteUptoCard : Claim7 := { stood := { row := fnExactMayWriteUptoRow, standIns := [], harness := (true, "5e997a34f466513a0bfbdb8ed734a63ac62055f441e203f0c25a288201788686"), looks := false }, kinds := [], alts := [], laidByText := true, laidKinds := [.data, .data], laidTests := true, laidLooks := .later }
def FnExactMayWriteUptoCardSaid : Prop := Claim7.holds Tryd.pinned (.plain (OpenSpec.upto fnExactMayWriteSpec)) fnExactMayWriteUptoCard

/-- THE SECOND FORM's CARD OF 'laws.FnExactGrainFault'. -/
def fnExactGrainFaultUptoCard : Claim7 := { stood := { row := fnExactGrainFaultUptoRow, standIns := [], harness := (true, "5e997a34f466513a0bfbdb8ed734a63ac62055f441e203f0c25a288201788686"), looks := false }, kinds := [], alts := [], laidByText := true, laidKinds := [.data, .data], laidTests := true, laidLooks := .later }
def FnExactGrainFaultUptoCardSaid : Prop := Claim7.holds Tryd.pinned (.plain (OpenSpec.upto fnExactGrainFaultSpec)) fnExactGrainFaultUptoCard

/-- THE SECOND FORM's CARD OF 'laws.FnExactAlongFault'. -/
def fnExactAlongFaultUptoCard : Claim7 := { stood := { row := fnExactAlongFaultUptoRow, standIns := [], harness := (true, "5e997a34f466513a0bfbdb8ed734a63ac62055f441e203f0c25a288201788686"), looks := false }, kinds := [], alts := [], laidByText := true, laidKinds := [.data, .data], laidTests := true, laidLooks := .later }
def FnExactAlongFaultUptoCardSaid : Prop := Claim7.holds Tryd.pinned (.plain (OpenSpec.upto fnExactAlongFaultSpec)) fnExactAlongFaultUptoCard

/-- THE SECOND FORM's CARD OF 'laws.FnExactGoesAlong'. -/
def fnExactGoesAlongUptoCard : Claim7 := { stood := { row := fnExactGoesAlongUptoRow, standIns := [], harness := (true, "5e997a34f466513a0bfbdb8ed734a63ac62055f441e203f0c25a288201788686"), looks := false }, kinds := [], alts := [], laidByText := true, laidKinds := [.data, .data], laidTests := true, laidLooks := .later }
def FnExactGoesAlongUptoCardSaid : Prop := Claim7.holds Tryd.pinned (.plain (OpenSpec.upto fnExactGoesAlongSpec)) fnExactGoesAlongUptoCard

/-- THE SECOND FORM's CARD OF 'laws.FnExactNextAlong'. -/
def fnExactNextAlongUptoCard : Claim7 := { stood := { row := fnExactNextAlongUptoRow, standIns := [], harness := (true, "5e997a34f466513a0bfbdb8ed734a63ac62055f441e203f0c25a288201788686"), looks := false }, kinds := [], alts := [], laidByText := true, laidKinds := [.data, .data], laidTests := true, laidLooks := .later }
def FnExactNextAlongUptoCardSaid : Prop := Claim7.holds Tryd.pinned (.plain (OpenSpec.upto fnExactNextAlongSpec)) fnExactNextAlongUptoCard
end Rows
end Go.Proofs.YtfgcjdhcnalmmaaDoor
