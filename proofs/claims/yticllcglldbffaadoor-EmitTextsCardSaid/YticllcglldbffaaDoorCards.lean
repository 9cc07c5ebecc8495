/-
  DERIVED. GIVEN WITH THE SEED: THE CARDS: each row of YticllcglldbffaaDoorRows.lean that lists a variable, with what it lists TIED to the program's text (the seventh form; the later family's looks); each row that meets fmt, with fmt's text TOLD by the authors' own Lean function (tested against real Go, not proved from fmt's source: count such statements apart). THE CARD IS WHAT COUNTS. Prove the row's statement (the work); the ties are given (YticllcglldbffaaDoorTie.lean); close each card by the builder's one call (the guide's Derived/Test/ToyasCard.lean, 'card_holds'). Laid BY PROGRAM, IN A SANDBOX (cutbox-door.mjs). By AI agents, Wed Nov 11 2026. No macro, syntax, notation, axiom, sorry.
-/
import Derived.Test.YticllcglldbffaaDoorRows
import GoSem.ClaimSeven
namespace Go.Proofs.YticllcglldbffaaDoor
namespace Rows

/-- THE TIED CARD OF 'dactyllaw13.KeyNames'. -/
def keyNamesCard : Claim7 := { stood := { row := keyNamesRow, standIns := [], harness := (true, "4402c21b827b59a73a52487a9469d21868c2e453fffc880bd776917c43f4a807"), looks := false }, kinds := [], alts := [], laidByText := true, laidKinds := [.data], laidTests := true, laidLooks := .later }
def KeyNamesCardSaid : Prop := Claim7.holds Tryd.pinned (.plain (OpenSpec.ofChange keyNamesSpec)) keyNamesCard

/-- THE TIED CARD OF 'dactyllaw13.KeyParses'. -/
def keyParsesCard : Claim7 := { stood := { row := keyParsesRow, standIns := [], harness := (true, "4402c21b827b59a73a52487a9469d21868c2e453fffc880bd776917c43f4a807"), looks := false }, kinds := [], alts := [], laidByText := true, laidKinds := [.data], laidTests := true, laidLooks := .later }
def KeyParsesCardSaid : Prop := Claim7.holds Tryd.pinned (.plain (OpenSpec.ofChange keyParsesSpec)) keyParsesCard

/-- THE TIED CARD OF 'dactyllaw10.EmitTexts'. -/
def emitTextsCard : Claim7 := { stood := { row := emitTextsRow, standIns := [], harness := (true, "4402c21b827b59a73a52487a9469d21868c2e453fffc880bd776917c43f4a807"), looks := false }, kinds := [], alts := [], laidByText := true, laidKinds := [.data, .data], laidTests := true, laidLooks := .later }
def EmitTextsCardSaid : Prop := Claim7.holds Tryd.pinned (.plain (OpenSpec.ofChange emitTextsSpec)) emitTextsCard

/-- THE TIED CARD OF 'dactyllaw10.EmitParses'. -/
def emitParsesCard : Claim7 := { stood := { row := emitParsesRow, standIns := [], harness := (true, "4402c21b827b59a73a52487a9469d21868c2e453fffc880bd776917c43f4a807"), looks := false }, kinds := [], alts := [], laidByText := true, laidKinds := [.data, .data], laidTests := true, laidLooks := .later }
def EmitParsesCardSaid : Prop := Claim7.holds Tryd.pinned (.plain (OpenSpec.ofChange emitParsesSpec)) emitParsesCard

/-- THE TIED CARD OF 'dactyllaw10.EmitControls'. -/
def emitControlsCard : Claim7 := { stood := { row := emitControlsRow, standIns := [], harness := (true, "4402c21b827b59a73a52487a9469d21868c2e453fffc880bd776917c43f4a807"), looks := false }, kinds := [], alts := [], laidByText := true, laidKinds := [.data, .data], laidTests := true, laidLooks := .later }
def EmitControlsCardSaid : Prop := Claim7.holds Tryd.pinned (.plain (OpenSpec.ofChange emitControlsSpec)) emitControlsCard

/-- THE TIED CARD OF 'dactyllaw10.EmitCloses'. -/
def emitClosesCard : Claim7 := { stood := { row := emitClosesRow, standIns := [], harness := (true, "4402c21b827b59a73a52487a9469d21868c2e453fffc880bd776917c43f4a807"), looks := false }, kinds := [], alts := [], laidByText := true, laidKinds := [.data, .data], laidTests := true, laidLooks := .later }
def EmitClosesCardSaid : Prop := Claim7.holds Tryd.pinned (.plain (OpenSpec.ofChange emitClosesSpec)) emitClosesCard

/-- THE TIED CARD OF 'dactyllaw38.AuditPlace'. -/
def auditPlaceCard : Claim7 := { stood := { row := auditPlaceRow, standIns := [], harness := (true, "4402c21b827b59a73a52487a9469d21868c2e453fffc880bd776917c43f4a807"), looks := false }, kinds := [], alts := [], laidByText := true, laidKinds := [.data, .data], laidTests := true, laidLooks := .later }
def AuditPlaceCardSaid : Prop := Claim7.holds Tryd.pinned (.plain (OpenSpec.ofChange auditPlaceSpec)) auditPlaceCard

/-- THE SECOND FORM's CARD OF 'dactyllaw13.KeyNames'. -/
def keyNamesUptoCard : Claim7 := { stood := { row := keyNamesUptoRow, standIns := [], harness := (true, "4402c21b827b59a73a52487a9469d21868c2e453fffc880bd776917c43f4a807"), looks := false }, kinds := [], alts := [], laidByText := true, laidKinds := [.data], laidTests := true, laidLooks := .later }
def KeyNamesUptoCardSaid : Prop := Claim7.holds Tryd.pinned (.plain (OpenSpec.upto keyNamesSpec)) keyNamesUptoCard

/-- THE SECOND FORM's CARD OF 'dactyllaw13.KeyParses'. -/
def keyParsesUptoCard : Claim7 := { stood := { row := keyParsesUptoRow, standIns := [], harness := (true, "4402c21b827b59a73a52487a9469d21868c2e453fffc880bd776917c43f4a807"), looks := false }, kinds := [], alts := [], laidByText := true, laidKinds := [.data], laidTests := true, laidLooks := .later }
def KeyParsesUptoCardSaid : Prop := Claim7.holds Tryd.pinned (.plain (OpenSpec.upto keyParsesSpec)) keyParsesUptoCard

/-- THE SECOND FORM's CARD OF 'dactyllaw10.EmitTexts'. -/
def emitTextsUptoCard : Claim7 := { stood := { row := emitTextsUptoRow, standIns := [], harness := (true, "4402c21b827b59a73a52487a9469d21868c2e453fffc880bd776917c43f4a807"), looks := false }, kinds := [], alts := [], laidByText := true, laidKinds := [.data, .data], laidTests := true, laidLooks := .later }
def EmitTextsUptoCardSaid : Prop := Claim7.holds Tryd.pinned (.plain (OpenSpec.upto emitTextsSpec)) emitTextsUptoCard

/-- THE SECOND FORM's CARD OF 'dactyllaw10.EmitParses'. -/
def emitParsesUptoCard : Claim7 := { stood := { row := emitParsesUptoRow, standIns := [], harness := (true, "4402c21b827b59a73a52487a9469d21868c2e453fffc880bd776917c43f4a807"), looks := false }, kinds := [], alts := [], laidByText := true, laidKinds := [.data, .data], laidTests := true, laidLooks := .later }
def EmitParsesUptoCardSaid : Prop := Claim7.holds Tryd.pinned (.plain (OpenSpec.upto emitParsesSpec)) emitParsesUptoCard

/-- THE SECOND FORM's CARD OF 'dactyllaw10.EmitControls'. -/
def emitControlsUptoCard : Claim7 := { stood := { row := emitControlsUptoRow, standIns := [], harness := (true, "4402c21b827b59a73a52487a9469d21868c2e453fffc880bd776917c43f4a807"), looks := false }, kinds := [], alts := [], laidByText := true, laidKinds := [.data, .data], laidTests := true, laidLooks := .later }
def EmitControlsUptoCardSaid : Prop := Claim7.holds Tryd.pinned (.plain (OpenSpec.upto emitControlsSpec)) emitControlsUptoCard

/-- THE SECOND FORM's CARD OF 'dactyllaw10.EmitCloses'. -/
def emitClosesUptoCard : Claim7 := { stood := { row := emitClosesUptoRow, standIns := [], harness := (true, "4402c21b827b59a73a52487a9469d21868c2e453fffc880bd776917c43f4a807"), looks := false }, kinds := [], alts := [], laidByText := true, laidKinds := [.data, .data], laidTests := true, laidLooks := .later }
def EmitClosesUptoCardSaid : Prop := Claim7.holds Tryd.pinned (.plain (OpenSpec.upto emitClosesSpec)) emitClosesUptoCard

/-- THE SECOND FORM's CARD OF 'dactyllaw38.AuditPlace'. -/
def auditPlaceUptoCard : Claim7 := { stood := { row := auditPlaceUptoRow, standIns := [], harness := (true, "4402c21b827b59a73a52487a9469d21868c2e453fffc880bd776917c43f4a807"), looks := false }, kinds := [], alts := [], laidByText := true, laidKinds := [.data, .data], laidTests := true, laidLooks := .later }
def AuditPlaceUptoCardSaid : Prop := Claim7.holds Tryd.pinned (.plain (OpenSpec.upto auditPlaceSpec)) auditPlaceUptoCard
end Rows
end Go.Proofs.YticllcglldbffaaDoor
