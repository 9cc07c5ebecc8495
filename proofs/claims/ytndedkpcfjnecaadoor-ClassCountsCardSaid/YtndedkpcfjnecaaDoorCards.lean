/-
  DERIVED. GIVEN WITH THE SEED: THE CARDS: each row of YtndedkpcfjnecaaDoorRows.lean that lists a variable, with what it lists TIED to the program's text (the seventh form; the later family's looks); each row that meets fmt, with fmt's text TOLD by the authors' own Lean function (tested against real Go, not proved from fmt's source: count such statements apart). THE CARD IS WHAT COUNTS. Prove the row's statement (the work); the ties are given (YtndedkpcfjnecaaDoorTie.lean); close each card by the builder's one call (the guide's Derived/Test/ToyasCard.lean, 'card_holds'). Laid BY PROGRAM, IN A SANDBOX (cutbox-door.mjs). By AI agents, Wed Nov 11 2026. No macro, syntax, notation, axiom, sorry.
-/
import Derived.Test.YtndedkpcfjnecaaDoorRows
import GoSem.ClaimSeven
namespace Go.Proofs.YtndedkpcfjnecaaDoor
namespace Rows

/-- THE TIED CARD OF 'dactyllaw03.ClassOf'. -/
def classOfCard : Claim7 := { stood := { row := classOfRow, standIns := [], harness := (true, "cf40d1f9a0f1cffba616691481be1422700305d6d1d576be895a9e55605e49c2"), looks := false }, kinds := [], alts := [], laidByText := true, laidKinds := [.data, .data], laidTests := true, laidLooks := .later }
def ClassOfCardSaid : Prop := Claim7.holds Tryd.pinned (.plain (OpenSpec.ofChange classOfSpec)) classOfCard

/-- THE TIED CARD OF 'dactyllaw03.ClassCounts'. -/
def classCountsCard : Claim7 := { stood := { row := classCountsRow, standIns := [], harness := (true, "cf40d1f9a0f1cffba616691481be1422700305d6d1d576be895a9e55605e49c2"), looks := false }, kinds := [], alts := [], laidByText := true, laidKinds := [.data, .data], laidTests := true, laidLooks := .later }
def ClassCountsCardSaid : Prop := Claim7.holds Tryd.pinned (.plain (OpenSpec.ofChange classCountsSpec)) classCountsCard

/-- THE TIED CARD OF 'dactyllaw05.WordKind'. -/
def wordKindCard : Claim7 := { stood := { row := wordKindRow, standIns := [], harness := (true, "cf40d1f9a0f1cffba616691481be1422700305d6d1d576be895a9e55605e49c2"), looks := false }, kinds := [], alts := [], laidByText := true, laidKinds := [.data, .data], laidTests := true, laidLooks := .later }
def WordKindCardSaid : Prop := Claim7.holds Tryd.pinned (.plain (OpenSpec.ofChange wordKindSpec)) wordKindCard

/-- THE TIED CARD OF 'dactyllaw43.TaintOnly'. -/
def taintOnlyCard : Claim7 := { stood := { row := taintOnlyRow, standIns := [], harness := (true, "cf40d1f9a0f1cffba616691481be1422700305d6d1d576be895a9e55605e49c2"), looks := false }, kinds := [], alts := [], laidByText := true, laidKinds := [.data, .data], laidTests := true, laidLooks := .later }
def TaintOnlyCardSaid : Prop := Claim7.holds Tryd.pinned (.plain (OpenSpec.ofChange taintOnlySpec)) taintOnlyCard

/-- THE SECOND FORM's CARD OF 'dactyllaw03.ClassOf'. -/
def classOfUptoCard : Claim7 := { stood := { row := classOfUptoRow, standIns := [], harness := (true, "cf40d1f9a0f1cffba616691481be1422700305d6d1d576be895a9e55605e49c2"), looks := false }, kinds := [], alts := [], laidByText := true, laidKinds := [.data, .data], laidTests := true, laidLooks := .later }
def ClassOfUptoCardSaid : Prop := Claim7.holds Tryd.pinned (.plain (OpenSpec.upto classOfSpec)) classOfUptoCard

/-- THE SECOND FORM's CARD OF 'dactyllaw03.ClassCounts'. -/
def classCountsUptoCard : Claim7 := { stood := { row := classCountsUptoRow, standIns := [], harness := (true, "cf40d1f9a0f1cffba616691481be1422700305d6d1d576be895a9e55605e49c2"), looks := false }, kinds := [], alts := [], laidByText := true, laidKinds := [.data, .data], laidTests := true, laidLooks := .later }
def ClassCountsUptoCardSaid : Prop := Claim7.holds Tryd.pinned (.plain (OpenSpec.upto classCountsSpec)) classCountsUptoCard

/-- THE SECOND FORM's CARD OF 'dactyllaw05.WordKind'. -/
def wordKindUptoCard : Claim7 := { stood := { row := wordKindUptoRow, standIns := [], harness := (true, "cf40d1f9a0f1cffba616691481be1422700305d6d1d576be895a9e55605e49c2"), looks := false }, kinds := [], alts := [], laidByText := true, laidKinds := [.data, .data], laidTests := true, laidLooks := .later }
def WordKindUptoCardSaid : Prop := Claim7.holds Tryd.pinned (.plain (OpenSpec.upto wordKindSpec)) wordKindUptoCard

/-- THE SECOND FORM's CARD OF 'dactyllaw43.TaintOnly'. -/
def taintOnlyUptoCard : Claim7 := { stood := { row := taintOnlyUptoRow, standIns := [], harness := (true, "cf40d1f9a0f1cffba616691481be1422700305d6d1d576be895a9e55605e49c2"), looks := false }, kinds := [], alts := [], laidByText := true, laidKinds := [.data, .data], laidTests := true, laidLooks := .later }
def TaintOnlyUptoCardSaid : Prop := Claim7.holds Tryd.pinned (.plain (OpenSpec.upto taintOnlySpec)) taintOnlyUptoCard
end Rows
end Go.Proofs.YtndedkpcfjnecaaDoor
