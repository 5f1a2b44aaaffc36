/-
  DERIVED. GIVEN WITH THE SEED: THE CARDS: each row of YtbfaaolbdgpnoaaDoorRows.lean that lists a variable, with what it lists TIED to the program's text (the seventh form; the later family's looks); each row that meets fmt, with fmt's text TOLD by the authors' own Lean function (tested against real Go, not proved from fmt's source: count such statements apart). THE CARD IS WHAT COUNTS. Prove the row's statement (the work); the ties are given (YtbfaaolbdgpnoaaDoorTie.lean); close each card by the builder's one call (the guide's Derived/Test/ToyasCard.lean, 'card_holds'). Laid BY PROGRAM, IN A SANDBOX (cutbox-door.mjs). By AI agents, Wed Nov 11 2026. No macro, syntax, notation, axiom, sorry.
-/
import Derived.Test.YtbfaaolbdgpnoaaDoorRows
import GoSem.ClaimSeven
namespace Go.Proofs.YtbfaaolbdgpnoaaDoor
namespace Rows

/-- THE TIED CARD OF 'laws.FnExactIsStronger'. -/
def fnExactIsStrongerCard : Claim7 := { stood := { row := fnExactIsStrongerRow, standIns := [], harness := (true, "2dc93f9d3f61e918344edbf85f799fe35cf3ea517bd928b55e4b1aea550044b3"), looks := false }, kinds := [], alts := [], laidByText := true, laidKinds := [.data], laidTests := true, laidLooks := .later }
def FnExactIsStrongerCardSaid : Prop := Claim7.holds Tryd.pinned (.plain (OpenSpec.ofChange fnExactIsStrongerSpec)) fnExactIsStrongerCard

/-- THE TIED CARD OF 'laws.FnExactJoinModes'. -/
def fnExactJoinModesCard : Claim7 := { stood := { row := fnExactJoinModesRow, standIns := [], harness := (true, "2dc93f9d3f61e918344edbf85f799fe35cf3ea517bd928b55e4b1aea550044b3"), looks := false }, kinds := [], alts := [], laidByText := true, laidKinds := [.data], laidTests := true, laidLooks := .later }
def FnExactJoinModesCardSaid : Prop := Claim7.holds Tryd.pinned (.plain (OpenSpec.ofChange fnExactJoinModesSpec)) fnExactJoinModesCard

/-- THE TIED CARD OF 'laws.FnExactGoTogether'. -/
def fnExactGoTogetherCard : Claim7 := { stood := { row := fnExactGoTogetherRow, standIns := [], harness := (true, "2dc93f9d3f61e918344edbf85f799fe35cf3ea517bd928b55e4b1aea550044b3"), looks := false }, kinds := [], alts := [], laidByText := true, laidKinds := [.data], laidTests := true, laidLooks := .later }
def FnExactGoTogetherCardSaid : Prop := Claim7.holds Tryd.pinned (.plain (OpenSpec.ofChange fnExactGoTogetherSpec)) fnExactGoTogetherCard

/-- THE TIED CARD OF 'laws.FnIsStrongerThree'. -/
def fnIsStrongerThreeCard : Claim7 := { stood := { row := fnIsStrongerThreeRow, standIns := [], harness := (true, "2dc93f9d3f61e918344edbf85f799fe35cf3ea517bd928b55e4b1aea550044b3"), looks := false }, kinds := [], alts := [], laidByText := true, laidKinds := [.data], laidTests := true, laidLooks := .later }
def FnIsStrongerThreeCardSaid : Prop := Claim7.holds Tryd.pinned (.plain (OpenSpec.ofChange fnIsStrongerThreeSpec)) fnIsStrongerThreeCard

/-- THE TIED CARD OF 'laws.FnGoTogetherNone'. -/
def fnGoTogetherNoneCard : Claim7 := { stood := { row := fnGoTogetherNoneRow, standIns := [], harness := (true, "2dc93f9d3f61e918344edbf85f799fe35cf3ea517bd928b55e4b1aea550044b3"), looks := false }, kinds := [], alts := [], laidByText := true, laidKinds := [.data], laidTests := true, laidLooks := .later }
def FnGoTogetherNoneCardSaid : Prop := Claim7.holds Tryd.pinned (.plain (OpenSpec.ofChange fnGoTogetherNoneSpec)) fnGoTogetherNoneCard

/-- THE TIED CARD OF 'laws.FnJoinModesBound'. -/
def fnJoinModesBoundCard : Claim7 := { stood := { row := fnJoinModesBoundRow, standIns := [], harness := (true, "2dc93f9d3f61e918344edbf85f799fe35cf3ea517bd928b55e4b1aea550044b3"), looks := false }, kinds := [], alts := [], laidByText := true, laidKinds := [.data], laidTests := true, laidLooks := .later }
def FnJoinModesBoundCardSaid : Prop := Claim7.holds Tryd.pinned (.plain (OpenSpec.ofChange fnJoinModesBoundSpec)) fnJoinModesBoundCard

/-- THE TIED CARD OF 'laws.FnJoinModesThree'. -/
def fnJoinModesThreeCard : Claim7 := { stood := { row := fnJoinModesThreeRow, standIns := [], harness := (true, "2dc93f9d3f61e918344edbf85f799fe35cf3ea517bd928b55e4b1aea550044b3"), looks := false }, kinds := [], alts := [], laidByText := true, laidKinds := [.data], laidTests := true, laidLooks := .later }
def FnJoinModesThreeCardSaid : Prop := Claim7.holds Tryd.pinned (.plain (OpenSpec.ofChange fnJoinModesThreeSpec)) fnJoinModesThreeCard

/-- THE TIED CARD OF 'laws.FnIsStronger'. -/
def fnIsStrongerCard : Claim7 := { stood := { row := fnIsStrongerRow, standIns := [], harness := (true, "2dc93f9d3f61e918344edbf85f799fe35cf3ea517bd928b55e4b1aea550044b3"), looks := false }, kinds := [], alts := [], laidByText := true, laidKinds := [.data], laidTests := true, laidLooks := .later }
def FnIsStrongerCardSaid : Prop := Claim7.holds Tryd.pinned (.plain (OpenSpec.ofChange fnIsStrongerSpec)) fnIsStrongerCard

/-- THE TIED CARD OF 'laws.FnGoTogetherWeaker'. -/
def fnGoTogetherWeakerCard : Claim7 := { stood := { row := fnGoTogetherWeakerRow, standIns := [], harness := (true, "2dc93f9d3f61e918344edbf85f799fe35cf3ea517bd928b55e4b1aea550044b3"), looks := false }, kinds := [], alts := [], laidByText := true, laidKinds := [.data, .data], laidTests := true, laidLooks := .later }
def FnGoTogetherWeakerCardSaid : Prop := Claim7.holds Tryd.pinned (.plain (OpenSpec.ofChange fnGoTogetherWeakerSpec)) fnGoTogetherWeakerCard

/-- THE TIED CARD OF 'laws.FnJoinModes'. -/
def fnJoinModesCard : Claim7 := { stood := { row := fnJoinModesRow, standIns := [], harness := (true, "2dc93f9d3f61e918344edbf85f799fe35cf3ea517bd928b55e4b1aea550044b3"), looks := false }, kinds := [], alts := [], laidByText := true, laidKinds := [.data], laidTests := true, laidLooks := .later }
def FnJoinModesCardSaid : Prop := Claim7.holds Tryd.pinned (.plain (OpenSpec.ofChange fnJoinModesSpec)) fnJoinModesCard

/-- THE TIED CARD OF 'laws.FnJoinModesTogether'. -/
def fnJoinModesTogetherCard : Claim7 := { stood := { row := fnJoinModesTogetherRow, standIns := [], harness := (true, "2dc93f9d3f61e918344edbf85f799fe35cf3ea517bd928b55e4b1aea550044b3"), looks := false }, kinds := [], alts := [], laidByText := true, laidKinds := [.data, .data], laidTests := true, laidLooks := .later }
def FnJoinModesTogetherCardSaid : Prop := Claim7.holds Tryd.pinned (.plain (OpenSpec.ofChange fnJoinModesTogetherSpec)) fnJoinModesTogetherCard

/-- THE TIED CARD OF 'laws.FnGoTogether'. -/
def fnGoTogetherCard : Claim7 := { stood := { row := fnGoTogetherRow, standIns := [], harness := (true, "2dc93f9d3f61e918344edbf85f799fe35cf3ea517bd928b55e4b1aea550044b3"), looks := false }, kinds := [], alts := [], laidByText := true, laidKinds := [.data, .data], laidTests := true, laidLooks := .later }
def FnGoTogetherCardSaid : Prop := Claim7.holds Tryd.pinned (.plain (OpenSpec.ofChange fnGoTogetherSpec)) fnGoTogetherCard

/-- THE TIED CARD OF 'laws.FnNeedAbove'. -/
def fnNeedAboveCard : Claim7 := { stood := { row := fnNeedAboveRow, standIns := [], harness := (true, "2dc93f9d3f61e918344edbf85f799fe35cf3ea517bd928b55e4b1aea550044b3"), looks := false }, kinds := [], alts := [], laidByText := true, laidKinds := [.data], laidTests := true, laidLooks := .later }
def FnNeedAboveCardSaid : Prop := Claim7.holds Tryd.pinned (.plain (OpenSpec.ofChange fnNeedAboveSpec)) fnNeedAboveCard

/-- THE TIED CARD OF 'laws.FnNeedAboveTogether'. -/
def fnNeedAboveTogetherCard : Claim7 := { stood := { row := fnNeedAboveTogetherRow, standIns := [], harness := (true, "2dc93f9d3f61e918344edbf85f799fe35cf3ea517bd928b55e4b1aea550044b3"), looks := false }, kinds := [], alts := [], laidByText := true, laidKinds := [.data], laidTests := true, laidLooks := .later }
def FnNeedAboveTogetherCardSaid : Prop := Claim7.holds Tryd.pinned (.plain (OpenSpec.ofChange fnNeedAboveTogetherSpec)) fnNeedAboveTogetherCard

/-- THE TIED CARD OF 'laws.FnIsStrongerAbove'. -/
def fnIsStrongerAboveCard : Claim7 := { stood := { row := fnIsStrongerAboveRow, standIns := [], harness := (true, "2dc93f9d3f61e918344edbf85f799fe35cf3ea517bd928b55e4b1aea550044b3"), looks := false }, kinds := [], alts := [], laidByText := true, laidKinds := [.data], laidTests := true, laidLooks := .later }
def FnIsStrongerAboveCardSaid : Prop := Claim7.holds Tryd.pinned (.plain (OpenSpec.ofChange fnIsStrongerAboveSpec)) fnIsStrongerAboveCard

/-- THE TIED CARD OF 'laws.FnNeedAboveJoin'. -/
def fnNeedAboveJoinCard : Claim7 := { stood := { row := fnNeedAboveJoinRow, standIns := [], harness := (true, "2dc93f9d3f61e918344edbf85f799fe35cf3ea517bd928b55e4b1aea550044b3"), looks := false }, kinds := [], alts := [], laidByText := true, laidKinds := [.data], laidTests := true, laidLooks := .later }
def FnNeedAboveJoinCardSaid : Prop := Claim7.holds Tryd.pinned (.plain (OpenSpec.ofChange fnNeedAboveJoinSpec)) fnNeedAboveJoinCard

/-- THE SECOND FORM's CARD OF 'laws.FnExactIsStronger'. -/
def fnExactIsStrongerUptoCard : Claim7 := { stood := { row := fnExactIsStrongerUptoRow, standIns := [], harness := (true, "2dc93f9d3f61e918344edbf85f799fe35cf3ea517bd928b55e4b1aea550044b3"), looks := false }, kinds := [], alts := [], laidByText := true, laidKinds := [.data], laidTests := true, laidLooks := .later }
def FnExactIsStrongerUptoCardSaid : Prop := Claim7.holds Tryd.pinned (.plain (OpenSpec.upto fnExactIsStrongerSpec)) fnExactIsStrongerUptoCard

/-- THE SECOND FORM's CARD OF 'laws.FnExactJoinModes'. -/
def fnExactJoinModesUptoCard : Claim7 := { stood := { row := fnExactJoinModesUptoRow, standIns := [], harness := (true, "2dc93f9d3f61e918344edbf85f799fe35cf3ea517bd928b55e4b1aea550044b3"), looks := false }, kinds := [], alts := [], laidByText := true, laidKinds := [.data], laidTests := true, laidLooks := .later }
def FnExactJoinModesUptoCardSaid : Prop := Claim7.holds Tryd.pinned (.plain (OpenSpec.upto fnExactJoinModesSpec)) fnExactJoinModesUptoCard

/-- THE SECOND FORM's CARD OF 'laws.FnExactGoTogether'. -/
def fnExactGoTogetherUptoCard : Claim7 := { stood := { row := fnExactGoTogetherUptoRow, standIns := [], harness := (true, "2dc93f9d3f61e918344edbf85f799fe35cf3ea517bd928b55e4b1aea550044b3"), looks := false }, kinds := [], alts := [], laidByText := true, laidKinds := [.data], laidTests := true, laidLooks := .later }
def FnExactGoTogetherUptoCardSaid : Prop := Claim7.holds Tryd.pinned (.plain (OpenSpec.upto fnExactGoTogetherSpec)) fnExactGoTogetherUptoCard

/-- THE SECOND FORM's CARD OF 'laws.FnIsStrongerThree'. -/
def fnIsStrongerThreeUptoCard : Claim7 := { stood := { row := fnIsStrongerThreeUptoRow, standIns := [], harness := (true, "2dc93f9d3f61e918344edbf85f799fe35cf3ea517bd928b55e4b1aea550044b3"), looks := false }, kinds := [], alts := [], laidByText := true, laidKinds := [.data], laidTests := true, laidLooks := .later }
def FnIsStrongerThreeUptoCardSaid : Prop := Claim7.holds Tryd.pinned (.plain (OpenSpec.upto fnIsStrongerThreeSpec)) fnIsStrongerThreeUptoCard

/-- THE SECOND FORM's CARD OF 'laws.FnGoTogetherNone'. -/
def fnGoTogetherNoneUptoCard : Claim7 := { stood := { row := fnGoTogetherNoneUptoRow, standIns := [], harness := (true, "2dc93f9d3f61e918344edbf85f799fe35cf3ea517bd928b55e4b1aea550044b3"), looks := false }, kinds := [], alts := [], laidByText := true, laidKinds := [.data], laidTests := true, laidLooks := .later }
def FnGoTogetherNoneUptoCardSaid : Prop := Claim7.holds Tryd.pinned (.plain (OpenSpec.upto fnGoTogetherNoneSpec)) fnGoTogetherNoneUptoCard

/-- THE SECOND FORM's CARD OF 'laws.FnJoinModesBound'. -/
def fnJoinModesBoundUptoCard : Claim7 := { stood := { row := fnJoinModesBoundUptoRow, standIns := [], harness := (true, "2dc93f9d3f61e918344edbf85f799fe35cf3ea517bd928b55e4b1aea550044b3"), looks := false }, kinds := [], alts := [], laidByText := true, laidKinds := [.data], laidTests := true, laidLooks := .later }
def FnJoinModesBoundUptoCardSaid : Prop := Claim7.holds Tryd.pinned (.plain (OpenSpec.upto fnJoinModesBoundSpec)) fnJoinModesBoundUptoCard

/-- THE SECOND FORM's CARD OF 'laws.FnJoinModesThree'. -/
def fnJoinModesThreeUptoCard : Claim7 := { stood := { row := fnJoinModesThreeUptoRow, standIns := [], harness := (true, "2dc93f9d3f61e918344edbf85f799fe35cf3ea517bd928b55e4b1aea550044b3"), looks := false }, kinds := [], alts := [], laidByText := true, laidKinds := [.data], laidTests := true, laidLooks := .later }
def FnJoinModesThreeUptoCardSaid : Prop := Claim7.holds Tryd.pinned (.plain (OpenSpec.upto fnJoinModesThreeSpec)) fnJoinModesThreeUptoCard

/-- THE SECOND FORM's CARD OF 'laws.FnIsStronger'. -/
def fnIsStrongerUptoCard : Claim7 := { stood := { row := fnIsStrongerUptoRow, standIns := [], harness := (true, "2dc93f9d3f61e918344edbf85f799fe35cf3ea517bd928b55e4b1aea550044b3"), looks := false }, kinds := [], alts := [], laidByText := true, laidKinds := [.data], laidTests := true, laidLooks := .later }
def FnIsStrongerUptoCardSaid : Prop := Claim7.holds Tryd.pinned (.plain (OpenSpec.upto fnIsStrongerSpec)) fnIsStrongerUptoCard

/-- THE SECOND FORM's CARD OF 'laws.FnGoTogetherWeaker'. -/
def fnGoTogetherWeakerUptoCard : Claim7 := { stood := { row := fnGoTogetherWeakerUptoRow, standIns := [], harness := (true, "2dc93f9d3f61e918344edbf85f799fe35cf3ea517bd928b55e4b1aea550044b3"), looks := false }, kinds := [], alts := [], laidByText := true, laidKinds := [.data, .data], laidTests := true, laidLooks := .later }
def FnGoTogetherWeakerUptoCardSaid : Prop := Claim7.holds Tryd.pinned (.plain (OpenSpec.upto fnGoTogetherWeakerSpec)) fnGoTogetherWeakerUptoCard

/-- THE SECOND FORM's CARD OF 'laws.FnJoinModes'. -/
def fnJoinModesUptoCard : Claim7 := { stood := { row := fnJoinModesUptoRow, standIns := [], harness := (true, "2dc93f9d3f61e918344edbf85f799fe35cf3ea517bd928b55e4b1aea550044b3"), looks := false }, kinds := [], alts := [], laidByText := true, laidKinds := [.data], laidTests := true, laidLooks := .later }
def FnJoinModesUptoCardSaid : Prop := Claim7.holds Tryd.pinned (.plain (OpenSpec.upto fnJoinModesSpec)) fnJoinModesUptoCard

/-- THE SECOND FORM's CARD OF 'laws.FnJoinModesTogether'. -/
def fnJoinModesTogetherUptoCard : Claim7 := { stood := { row := fnJoinModesTogetherUptoRow, standIns := [], harness := (true, "2dc93f9d3f61e918344edbf85f799fe35cf3ea517bd928b55e4b1aea550044b3"), looks := false }, kinds := [], alts := [], laidByText := true, laidKinds := [.data, .data], laidTests := true, laidLooks := .later }
def FnJoinModesTogetherUptoCardSaid : Prop := Claim7.holds Tryd.pinned (.plain (OpenSpec.upto fnJoinModesTogetherSpec)) fnJoinModesTogetherUptoCard

/-- THE SECOND FORM's CARD OF 'laws.FnGoTogether'. -/
def fnGoTogetherUptoCard : Claim7 := { stood := { row := fnGoTogetherUptoRow, standIns := [], harness := (true, "2dc93f9d3f61e918344edbf85f799fe35cf3ea517bd928b55e4b1aea550044b3"), looks := false }, kinds := [], alts := [], laidByText := true, laidKinds := [.data, .data], laidTests := true, laidLooks := .later }
def FnGoTogetherUptoCardSaid : Prop := Claim7.holds Tryd.pinned (.plain (OpenSpec.upto fnGoTogetherSpec)) fnGoTogetherUptoCard

/-- THE SECOND FORM's CARD OF 'laws.FnNeedAbove'. -/
def fnNeedAboveUptoCard : Claim7 := { stood := { row := fnNeedAboveUptoRow, standIns := [], harness := (true, "2dc93f9d3f61e918344edbf85f799fe35cf3ea517bd928b55e4b1aea550044b3"), looks := false }, kinds := [], alts := [], laidByText := true, laidKinds := [.data], laidTests := true, laidLooks := .later }
def FnNeedAboveUptoCardSaid : Prop := Claim7.holds Tryd.pinned (.plain (OpenSpec.upto fnNeedAboveSpec)) fnNeedAboveUptoCard

/-- THE SECOND FORM's CARD OF 'laws.FnNeedAboveTogether'. -/
def fnNeedAboveTogetherUptoCard : Claim7 := { stood := { row := fnNeedAboveTogetherUptoRow, standIns := [], harness := (true, "2dc93f9d3f61e918344edbf85f799fe35cf3ea517bd928b55e4b1aea550044b3"), looks := false }, kinds := [], alts := [], laidByText := true, laidKinds := [.data], laidTests := true, laidLooks := .later }
def FnNeedAboveTogetherUptoCardSaid : Prop := Claim7.holds Tryd.pinned (.plain (OpenSpec.upto fnNeedAboveTogetherSpec)) fnNeedAboveTogetherUptoCard

/-- THE SECOND FORM's CARD OF 'laws.FnIsStrongerAbove'. -/
def fnIsStrongerAboveUptoCard : Claim7 := { stood := { row := fnIsStrongerAboveUptoRow, standIns := [], harness := (true, "2dc93f9d3f61e918344edbf85f799fe35cf3ea517bd928b55e4b1aea550044b3"), looks := false }, kinds := [], alts := [], laidByText := true, laidKinds := [.data], laidTests := true, laidLooks := .later }
def FnIsStrongerAboveUptoCardSaid : Prop := Claim7.holds Tryd.pinned (.plain (OpenSpec.upto fnIsStrongerAboveSpec)) fnIsStrongerAboveUptoCard

/-- THE SECOND FORM's CARD OF 'laws.FnNeedAboveJoin'. -/
def fnNeedAboveJoinUptoCard : Claim7 := { stood := { row := fnNeedAboveJoinUptoRow, standIns := [], harness := (true, "2dc93f9d3f61e918344edbf85f799fe35cf3ea517bd928b55e4b1aea550044b3"), looks := false }, kinds := [], alts := [], laidByText := true, laidKinds := [.data], laidTests := true, laidLooks := .later }
def FnNeedAboveJoinUptoCardSaid : Prop := Claim7.holds Tryd.pinned (.plain (OpenSpec.upto fnNeedAboveJoinSpec)) fnNeedAboveJoinUptoCard
end Rows
end Go.Proofs.YtbfaaolbdgpnoaaDoor
