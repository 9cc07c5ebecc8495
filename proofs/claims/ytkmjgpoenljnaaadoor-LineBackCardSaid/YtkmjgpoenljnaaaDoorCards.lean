/-
  DERIVED. GIVEN WITH THE SEED: THE CARDS: each row of YtkmjgpoenljnaaaDoorRows.lean that lists a variable, with what it lists TIED to the program's text (the seventh form; the later family's looks); each row that meets fmt, with fmt's text TOLD by the authors' own Lean function (tested against real Go, not proved from fmt's source: count such statements apart). THE CARD IS WHAT COUNTS. Prove the row's statement (the work); the ties are given (YtkmjgpoenljnaaaDoorTie.lean); close each card by the builder's one call (the guide's Derived/Test/ToyasCard.lean, 'card_holds'). Laid BY PROGRAM, IN A SANDBOX (cutbox-door.mjs). By AI agents, Wed Nov 11 2026. No macro, syntax, notation, axiom, sorry.
-/
import Derived.Test.YtkmjgpoenljnaaaDoorRows
import GoSem.ClaimSeven
namespace Go.Proofs.YtkmjgpoenljnaaaDoor
namespace Rows

/-- THE TIED CARD OF 'dactyllaw17.LineSwaps'. -/
def lineSwapsCard : Claim7 := { stood := { row := lineSwapsRow, standIns := [], harness := (true, "558e41cac3446ff1ee2ce25381e0cb91b8876fa34c5421df7007689ef935e6b8"), looks := false }, kinds := [], alts := [], laidByText := true, laidKinds := [.data, .data], laidTests := true, laidLooks := .later }
def LineSwapsCardSaid : Prop := Claim7.holds Tryd.pinned (.plain (OpenSpec.ofChange lineSwapsSpec)) lineSwapsCard

/-- THE TIED CARD OF 'dactyllaw17.LineBack'. -/
def lineBackCard : Claim7 := { stood := { row := lineBackRow, standIns := [], harness := (true, "558e41cac3446ff1ee2ce25381e0cb91b8876fa34c5421df7007689ef935e6b8"), looks := false }, kinds := [], alts := [], laidByText := true, laidKinds := [.data, .data], laidTests := true, laidLooks := .later }
def LineBackCardSaid : Prop := Claim7.holds Tryd.pinned (.plain (OpenSpec.ofChange lineBackSpec)) lineBackCard

/-- THE TIED CARD OF 'dactyllaw15.FrameAgrees'. -/
def frameAgreesCard : Claim7 := { stood := { row := frameAgreesRow, standIns := [], harness := (true, "558e41cac3446ff1ee2ce25381e0cb91b8876fa34c5421df7007689ef935e6b8"), looks := false }, kinds := [], alts := [], laidByText := true, laidKinds := [.data, .pinned], laidTests := true, laidLooks := .later }
def FrameAgreesCardSaid : Prop := Claim7.holds Tryd.pinned (.plain (OpenSpec.ofChange frameAgreesSpec)) frameAgreesCard

/-- THE TIED CARD OF 'dactyllaw26.OfferDoes'. -/
def offerDoesCard : Claim7 := { stood := { row := offerDoesRow, standIns := [], harness := (true, "558e41cac3446ff1ee2ce25381e0cb91b8876fa34c5421df7007689ef935e6b8"), looks := false }, kinds := [], alts := [], laidByText := true, laidKinds := [.data, .data], laidTests := true, laidLooks := .later }
def OfferDoesCardSaid : Prop := Claim7.holds Tryd.pinned (.plain (OpenSpec.ofChange offerDoesSpec)) offerDoesCard

/-- THE TIED CARD OF 'dactyllaw26.OfferStays'. -/
def offerStaysCard : Claim7 := { stood := { row := offerStaysRow, standIns := [], harness := (true, "558e41cac3446ff1ee2ce25381e0cb91b8876fa34c5421df7007689ef935e6b8"), looks := false }, kinds := [], alts := [], laidByText := true, laidKinds := [.data, .data], laidTests := true, laidLooks := .later }
def OfferStaysCardSaid : Prop := Claim7.holds Tryd.pinned (.plain (OpenSpec.ofChange offerStaysSpec)) offerStaysCard

/-- THE TIED CARD OF 'dactyllaw26.OfferOnly'. -/
def offerOnlyCard : Claim7 := { stood := { row := offerOnlyRow, standIns := [], harness := (true, "558e41cac3446ff1ee2ce25381e0cb91b8876fa34c5421df7007689ef935e6b8"), looks := false }, kinds := [], alts := [], laidByText := true, laidKinds := [.data, .data], laidTests := true, laidLooks := .later }
def OfferOnlyCardSaid : Prop := Claim7.holds Tryd.pinned (.plain (OpenSpec.ofChange offerOnlySpec)) offerOnlyCard

/-- THE TIED CARD OF 'dactyllaw14.InputDoes'. -/
def inputDoesCard : Claim7 := { stood := { row := inputDoesRow, standIns := [], harness := (true, "558e41cac3446ff1ee2ce25381e0cb91b8876fa34c5421df7007689ef935e6b8"), looks := false }, kinds := [], alts := [], laidByText := true, laidKinds := [.data, .data, .pinned], laidTests := true, laidLooks := .later }
def InputDoesCardSaid : Prop := Claim7.holds Tryd.pinned (.plain (OpenSpec.ofChange inputDoesSpec)) inputDoesCard

/-- THE TIED CARD OF 'dactyllaw14.InputChunks'. -/
def inputChunksCard : Claim7 := { stood := { row := inputChunksRow, standIns := [], harness := (true, "558e41cac3446ff1ee2ce25381e0cb91b8876fa34c5421df7007689ef935e6b8"), looks := false }, kinds := [], alts := [], laidByText := true, laidKinds := [.data, .data, .pinned], laidTests := true, laidLooks := .later }
def InputChunksCardSaid : Prop := Claim7.holds Tryd.pinned (.plain (OpenSpec.ofChange inputChunksSpec)) inputChunksCard

/-- THE TIED CARD OF 'dactyllaw14.InputBack'. -/
def inputBackCard : Claim7 := { stood := { row := inputBackRow, standIns := [], harness := (true, "558e41cac3446ff1ee2ce25381e0cb91b8876fa34c5421df7007689ef935e6b8"), looks := false }, kinds := [], alts := [], laidByText := true, laidKinds := [.data, .data, .pinned], laidTests := true, laidLooks := .later }
def InputBackCardSaid : Prop := Claim7.holds Tryd.pinned (.plain (OpenSpec.ofChange inputBackSpec)) inputBackCard

/-- THE TIED CARD OF 'dactyllaw14.InputSettles'. -/
def inputSettlesCard : Claim7 := { stood := { row := inputSettlesRow, standIns := [], harness := (true, "558e41cac3446ff1ee2ce25381e0cb91b8876fa34c5421df7007689ef935e6b8"), looks := false }, kinds := [], alts := [], laidByText := true, laidKinds := [.data, .data, .pinned], laidTests := true, laidLooks := .later }
def InputSettlesCardSaid : Prop := Claim7.holds Tryd.pinned (.plain (OpenSpec.ofChange inputSettlesSpec)) inputSettlesCard

/-- THE SECOND FORM's CARD OF 'dactyllaw17.LineSwaps'. -/
def lineSwapsUptoCard : Claim7 := { stood := { row := lineSwapsUptoRow, standIns := [], harness := (true, "558e41cac3446ff1ee2ce25381e0cb91b8876fa34c5421df7007689ef935e6b8"), looks := false }, kinds := [], alts := [], laidByText := true, laidKinds := [.data, .data], laidTests := true, laidLooks := .later }
def LineSwapsUptoCardSaid : Prop := Claim7.holds Tryd.pinned (.plain (OpenSpec.upto lineSwapsSpec)) lineSwapsUptoCard

/-- THE SECOND FORM's CARD OF 'dactyllaw17.LineBack'. -/
def lineBackUptoCard : Claim7 := { stood := { row := lineBackUptoRow, standIns := [], harness := (true, "558e41cac3446ff1ee2ce25381e0cb91b8876fa34c5421df7007689ef935e6b8"), looks := false }, kinds := [], alts := [], laidByText := true, laidKinds := [.data, .data], laidTests := true, laidLooks := .later }
def LineBackUptoCardSaid : Prop := Claim7.holds Tryd.pinned (.plain (OpenSpec.upto lineBackSpec)) lineBackUptoCard

/-- THE SECOND FORM's CARD OF 'dactyllaw15.FrameAgrees'. -/
def frameAgreesUptoCard : Claim7 := { stood := { row := frameAgreesUptoRow, standIns := [], harness := (true, "558e41cac3446ff1ee2ce25381e0cb91b8876fa34c5421df7007689ef935e6b8"), looks := false }, kinds := [], alts := [], laidByText := true, laidKinds := [.data, .pinned], laidTests := true, laidLooks := .later }
def FrameAgreesUptoCardSaid : Prop := Claim7.holds Tryd.pinned (.plain (OpenSpec.upto frameAgreesSpec)) frameAgreesUptoCard

/-- THE SECOND FORM's CARD OF 'dactyllaw26.OfferDoes'. -/
def offerDoesUptoCard : Claim7 := { stood := { row := offerDoesUptoRow, standIns := [], harness := (true, "558e41cac3446ff1ee2ce25381e0cb91b8876fa34c5421df7007689ef935e6b8"), looks := false }, kinds := [], alts := [], laidByText := true, laidKinds := [.data, .data], laidTests := true, laidLooks := .later }
def OfferDoesUptoCardSaid : Prop := Claim7.holds Tryd.pinned (.plain (OpenSpec.upto offerDoesSpec)) offerDoesUptoCard

/-- THE SECOND FORM's CARD OF 'dactyllaw26.OfferStays'. -/
def offerStaysUptoCard : Claim7 := { stood := { row := offerStaysUptoRow, standIns := [], harness := (true, "558e41cac3446ff1ee2ce25381e0cb91b8876fa34c5421df7007689ef935e6b8"), looks := false }, kinds := [], alts := [], laidByText := true, laidKinds := [.data, .data], laidTests := true, laidLooks := .later }
def OfferStaysUptoCardSaid : Prop := Claim7.holds Tryd.pinned (.plain (OpenSpec.upto offerStaysSpec)) offerStaysUptoCard

/-- THE SECOND FORM's CARD OF 'dactyllaw26.OfferOnly'. -/
def offerOnlyUptoCard : Claim7 := { stood := { row := offerOnlyUptoRow, standIns := [], harness := (true, "558e41cac3446ff1ee2ce25381e0cb91b8876fa34c5421df7007689ef935e6b8"), looks := false }, kinds := [], alts := [], laidByText := true, laidKinds := [.data, .data], laidTests := true, laidLooks := .later }
def OfferOnlyUptoCardSaid : Prop := Claim7.holds Tryd.pinned (.plain (OpenSpec.upto offerOnlySpec)) offerOnlyUptoCard

/-- THE SECOND FORM's CARD OF 'dactyllaw14.InputDoes'. -/
def inputDoesUptoCard : Claim7 := { stood := { row := inputDoesUptoRow, standIns := [], harness := (true, "558e41cac3446ff1ee2ce25381e0cb91b8876fa34c5421df7007689ef935e6b8"), looks := false }, kinds := [], alts := [], laidByText := true, laidKinds := [.data, .data, .pinned], laidTests := true, laidLooks := .later }
def InputDoesUptoCardSaid : Prop := Claim7.holds Tryd.pinned (.plain (OpenSpec.upto inputDoesSpec)) inputDoesUptoCard

/-- THE SECOND FORM's CARD OF 'dactyllaw14.InputChunks'. -/
def inputChunksUptoCard : Claim7 := { stood := { row := inputChunksUptoRow, standIns := [], harness := (true, "558e41cac3446ff1ee2ce25381e0cb91b8876fa34c5421df7007689ef935e6b8"), looks := false }, kinds := [], alts := [], laidByText := true, laidKinds := [.data, .data, .pinned], laidTests := true, laidLooks := .later }
def InputChunksUptoCardSaid : Prop := Claim7.holds Tryd.pinned (.plain (OpenSpec.upto inputChunksSpec)) inputChunksUptoCard

/-- THE SECOND FORM's CARD OF 'dactyllaw14.InputBack'. -/
def inputBackUptoCard : Claim7 := { stood := { row := inputBackUptoRow, standIns := [], harness := (true, "558e41cac3446ff1ee2ce25381e0cb91b8876fa34c5421df7007689ef935e6b8"), looks := false }, kinds := [], alts := [], laidByText := true, laidKinds := [.data, .data, .pinned], laidTests := true, laidLooks := .later }
def InputBackUptoCardSaid : Prop := Claim7.holds Tryd.pinned (.plain (OpenSpec.upto inputBackSpec)) inputBackUptoCard

/-- THE SECOND FORM's CARD OF 'dactyllaw14.InputSettles'. -/
def inputSettlesUptoCard : Claim7 := { stood := { row := inputSettlesUptoRow, standIns := [], harness := (true, "558e41cac3446ff1ee2ce25381e0cb91b8876fa34c5421df7007689ef935e6b8"), looks := false }, kinds := [], alts := [], laidByText := true, laidKinds := [.data, .data, .pinned], laidTests := true, laidLooks := .later }
def InputSettlesUptoCardSaid : Prop := Claim7.holds Tryd.pinned (.plain (OpenSpec.upto inputSettlesSpec)) inputSettlesUptoCard
end Rows
end Go.Proofs.YtkmjgpoenljnaaaDoor
