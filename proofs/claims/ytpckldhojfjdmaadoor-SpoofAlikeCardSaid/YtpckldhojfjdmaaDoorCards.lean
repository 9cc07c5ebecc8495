/-
  DERIVED. GIVEN WITH THE SEED: THE CARDS: each row of YtpckldhojfjdmaaDoorRows.lean that lists a variable, with what it lists TIED to the program's text (the seventh form; the later family's looks); each row that meets fmt, with fmt's text TOLD by the authors' own Lean function (tested against real Go, not proved from fmt's source: count such statements apart). THE CARD IS WHAT COUNTS. Prove the row's statement (the work); the ties are given (YtpckldhojfjdmaaDoorTie.lean); close each card by the builder's one call (the guide's Derived/Test/ToyasCard.lean, 'card_holds'). Laid BY PROGRAM, IN A SANDBOX (cutbox-door.mjs). By AI agents, Wed Nov 11 2026. No macro, syntax, notation, axiom, sorry.
-/
import Derived.Test.YtpckldhojfjdmaaDoorRows
import GoSem.ClaimSeven
namespace Go.Proofs.YtpckldhojfjdmaaDoor
namespace Rows

/-- THE TIED CARD OF 'dactyllaw43.TaintOnly'. -/
def taintOnlyCard : Claim7 := { stood := { row := taintOnlyRow, standIns := [], harness := (true, "eb7ece749ac17d7ab4912fddd7cf6d11f877ce40af0109cc50da3bc316b37db0"), looks := false }, kinds := [], alts := [], laidByText := true, laidKinds := [.data, .data], laidTests := true, laidLooks := .later }
def TaintOnlyCardSaid : Prop := Claim7.holds Tryd.pinned (.plain (OpenSpec.ofChange taintOnlySpec)) taintOnlyCard

/-- THE TIED CARD OF 'dactyllaw06.ShowCells'. -/
def showCellsCard : Claim7 := { stood := { row := showCellsRow, standIns := [], harness := (true, "eb7ece749ac17d7ab4912fddd7cf6d11f877ce40af0109cc50da3bc316b37db0"), looks := false }, kinds := [], alts := [], laidByText := true, laidKinds := [.data, .data], laidTests := true, laidLooks := .later }
def ShowCellsCardSaid : Prop := Claim7.holds Tryd.pinned (.plain (OpenSpec.ofChange showCellsSpec)) showCellsCard

/-- THE TIED CARD OF 'dactyllaw06.ShowApart'. -/
def showApartCard : Claim7 := { stood := { row := showApartRow, standIns := [], harness := (true, "eb7ece749ac17d7ab4912fddd7cf6d11f877ce40af0109cc50da3bc316b37db0"), looks := false }, kinds := [], alts := [], laidByText := true, laidKinds := [.data, .data], laidTests := true, laidLooks := .later }
def ShowApartCardSaid : Prop := Claim7.holds Tryd.pinned (.plain (OpenSpec.ofChange showApartSpec)) showApartCard

/-- THE TIED CARD OF 'dactyllaw06.ShowCols'. -/
def showColsCard : Claim7 := { stood := { row := showColsRow, standIns := [], harness := (true, "eb7ece749ac17d7ab4912fddd7cf6d11f877ce40af0109cc50da3bc316b37db0"), looks := false }, kinds := [], alts := [], laidByText := true, laidKinds := [.data, .data], laidTests := true, laidLooks := .later }
def ShowColsCardSaid : Prop := Claim7.holds Tryd.pinned (.plain (OpenSpec.ofChange showColsSpec)) showColsCard

/-- THE TIED CARD OF 'dactyllaw44.SpoofStrips'. -/
def spoofStripsCard : Claim7 := { stood := { row := spoofStripsRow, standIns := [], harness := (true, "eb7ece749ac17d7ab4912fddd7cf6d11f877ce40af0109cc50da3bc316b37db0"), looks := false }, kinds := [], alts := [], laidByText := true, laidKinds := [.data, .data], laidTests := true, laidLooks := .later }
def SpoofStripsCardSaid : Prop := Claim7.holds Tryd.pinned (.plain (OpenSpec.ofChange spoofStripsSpec)) spoofStripsCard

/-- THE TIED CARD OF 'dactyllaw44.SpoofAlike'. -/
def spoofAlikeCard : Claim7 := { stood := { row := spoofAlikeRow, standIns := [], harness := (true, "eb7ece749ac17d7ab4912fddd7cf6d11f877ce40af0109cc50da3bc316b37db0"), looks := false }, kinds := [], alts := [], laidByText := true, laidKinds := [.data, .data], laidTests := true, laidLooks := .later }
def SpoofAlikeCardSaid : Prop := Claim7.holds Tryd.pinned (.plain (OpenSpec.ofChange spoofAlikeSpec)) spoofAlikeCard

/-- THE TIED CARD OF 'dactyllaw44.SpoofScripts'. -/
def spoofScriptsCard : Claim7 := { stood := { row := spoofScriptsRow, standIns := [], harness := (true, "eb7ece749ac17d7ab4912fddd7cf6d11f877ce40af0109cc50da3bc316b37db0"), looks := false }, kinds := [], alts := [], laidByText := true, laidKinds := [.data, .data], laidTests := true, laidLooks := .later }
def SpoofScriptsCardSaid : Prop := Claim7.holds Tryd.pinned (.plain (OpenSpec.ofChange spoofScriptsSpec)) spoofScriptsCard

/-- THE TIED CARD OF 'dactyllaw07.ViewOf'. -/
def viewOfCard : Claim7 := { stood := { row := viewOfRow, standIns := [], harness := (true, "eb7ece749ac17d7ab4912fddd7cf6d11f877ce40af0109cc50da3bc316b37db0"), looks := false }, kinds := [], alts := [], laidByText := true, laidKinds := [.data, .data], laidTests := true, laidLooks := .later }
def ViewOfCardSaid : Prop := Claim7.holds Tryd.pinned (.plain (OpenSpec.ofChange viewOfSpec)) viewOfCard

/-- THE TIED CARD OF 'dactyllaw07.ViewMaps'. -/
def viewMapsCard : Claim7 := { stood := { row := viewMapsRow, standIns := [], harness := (true, "eb7ece749ac17d7ab4912fddd7cf6d11f877ce40af0109cc50da3bc316b37db0"), looks := false }, kinds := [], alts := [], laidByText := true, laidKinds := [.data, .data], laidTests := true, laidLooks := .later }
def ViewMapsCardSaid : Prop := Claim7.holds Tryd.pinned (.plain (OpenSpec.ofChange viewMapsSpec)) viewMapsCard

/-- THE TIED CARD OF 'dactyllaw07.ViewApart'. -/
def viewApartCard : Claim7 := { stood := { row := viewApartRow, standIns := [], harness := (true, "eb7ece749ac17d7ab4912fddd7cf6d11f877ce40af0109cc50da3bc316b37db0"), looks := false }, kinds := [], alts := [], laidByText := true, laidKinds := [.data, .data], laidTests := true, laidLooks := .later }
def ViewApartCardSaid : Prop := Claim7.holds Tryd.pinned (.plain (OpenSpec.ofChange viewApartSpec)) viewApartCard

/-- THE TIED CARD OF 'dactyllaw07.ViewText'. -/
def viewTextCard : Claim7 := { stood := { row := viewTextRow, standIns := [], harness := (true, "eb7ece749ac17d7ab4912fddd7cf6d11f877ce40af0109cc50da3bc316b37db0"), looks := false }, kinds := [], alts := [], laidByText := true, laidKinds := [.data, .data], laidTests := true, laidLooks := .later }
def ViewTextCardSaid : Prop := Claim7.holds Tryd.pinned (.plain (OpenSpec.ofChange viewTextSpec)) viewTextCard

/-- THE SECOND FORM's CARD OF 'dactyllaw43.TaintOnly'. -/
def taintOnlyUptoCard : Claim7 := { stood := { row := taintOnlyUptoRow, standIns := [], harness := (true, "eb7ece749ac17d7ab4912fddd7cf6d11f877ce40af0109cc50da3bc316b37db0"), looks := false }, kinds := [], alts := [], laidByText := true, laidKinds := [.data, .data], laidTests := true, laidLooks := .later }
def TaintOnlyUptoCardSaid : Prop := Claim7.holds Tryd.pinned (.plain (OpenSpec.upto taintOnlySpec)) taintOnlyUptoCard

/-- THE SECOND FORM's CARD OF 'dactyllaw06.ShowCells'. -/
def showCellsUptoCard : Claim7 := { stood := { row := showCellsUptoRow, standIns := [], harness := (true, "eb7ece749ac17d7ab4912fddd7cf6d11f877ce40af0109cc50da3bc316b37db0"), looks := false }, kinds := [], alts := [], laidByText := true, laidKinds := [.data, .data], laidTests := true, laidLooks := .later }
def ShowCellsUptoCardSaid : Prop := Claim7.holds Tryd.pinned (.plain (OpenSpec.upto showCellsSpec)) showCellsUptoCard

/-- THE SECOND FORM's CARD OF 'dactyllaw06.ShowApart'. -/
def showApartUptoCard : Claim7 := { stood := { row := showApartUptoRow, standIns := [], harness := (true, "eb7ece749ac17d7ab4912fddd7cf6d11f877ce40af0109cc50da3bc316b37db0"), looks := false }, kinds := [], alts := [], laidByText := true, laidKinds := [.data, .data], laidTests := true, laidLooks := .later }
def ShowApartUptoCardSaid : Prop := Claim7.holds Tryd.pinned (.plain (OpenSpec.upto showApartSpec)) showApartUptoCard

/-- THE SECOND FORM's CARD OF 'dactyllaw06.ShowCols'. -/
def showColsUptoCard : Claim7 := { stood := { row := showColsUptoRow, standIns := [], harness := (true, "eb7ece749ac17d7ab4912fddd7cf6d11f877ce40af0109cc50da3bc316b37db0"), looks := false }, kinds := [], alts := [], laidByText := true, laidKinds := [.data, .data], laidTests := true, laidLooks := .later }
def ShowColsUptoCardSaid : Prop := Claim7.holds Tryd.pinned (.plain (OpenSpec.upto showColsSpec)) showColsUptoCard

/-- THE SECOND FORM's CARD OF 'dactyllaw44.SpoofStrips'. -/
def spoofStripsUptoCard : Claim7 := { stood := { row := spoofStripsUptoRow, standIns := [], harness := (true, "eb7ece749ac17d7ab4912fddd7cf6d11f877ce40af0109cc50da3bc316b37db0"), looks := false }, kinds := [], alts := [], laidByText := true, laidKinds := [.data, .data], laidTests := true, laidLooks := .later }
def SpoofStripsUptoCardSaid : Prop := Claim7.holds Tryd.pinned (.plain (OpenSpec.upto spoofStripsSpec)) spoofStripsUptoCard

/-- THE SECOND FORM's CARD OF 'dactyllaw44.SpoofAlike'. -/
def spoofAlikeUptoCard : Claim7 := { stood := { row := spoofAlikeUptoRow, standIns := [], harness := (true, "eb7ece749ac17d7ab4912fddd7cf6d11f877ce40af0109cc50da3bc316b37db0"), looks := false }, kinds := [], alts := [], laidByText := true, laidKinds := [.data, .data], laidTests := true, laidLooks := .later }
def SpoofAlikeUptoCardSaid : Prop := Claim7.holds Tryd.pinned (.plain (OpenSpec.upto spoofAlikeSpec)) spoofAlikeUptoCard

/-- THE SECOND FORM's CARD OF 'dactyllaw44.SpoofScripts'. -/
def spoofScriptsUptoCard : Claim7 := { stood := { row := spoofScriptsUptoRow, standIns := [], harness := (true, "eb7ece749ac17d7ab4912fddd7cf6d11f877ce40af0109cc50da3bc316b37db0"), looks := false }, kinds := [], alts := [], laidByText := true, laidKinds := [.data, .data], laidTests := true, laidLooks := .later }
def SpoofScriptsUptoCardSaid : Prop := Claim7.holds Tryd.pinned (.plain (OpenSpec.upto spoofScriptsSpec)) spoofScriptsUptoCard

/-- THE SECOND FORM's CARD OF 'dactyllaw07.ViewOf'. -/
def viewOfUptoCard : Claim7 := { stood := { row := viewOfUptoRow, standIns := [], harness := (true, "eb7ece749ac17d7ab4912fddd7cf6d11f877ce40af0109cc50da3bc316b37db0"), looks := false }, kinds := [], alts := [], laidByText := true, laidKinds := [.data, .data], laidTests := true, laidLooks := .later }
def ViewOfUptoCardSaid : Prop := Claim7.holds Tryd.pinned (.plain (OpenSpec.upto viewOfSpec)) viewOfUptoCard

/-- THE SECOND FORM's CARD OF 'dactyllaw07.ViewMaps'. -/
def viewMapsUptoCard : Claim7 := { stood := { row := viewMapsUptoRow, standIns := [], harness := (true, "eb7ece749ac17d7ab4912fddd7cf6d11f877ce40af0109cc50da3bc316b37db0"), looks := false }, kinds := [], alts := [], laidByText := true, laidKinds := [.data, .data], laidTests := true, laidLooks := .later }
def ViewMapsUptoCardSaid : Prop := Claim7.holds Tryd.pinned (.plain (OpenSpec.upto viewMapsSpec)) viewMapsUptoCard

/-- THE SECOND FORM's CARD OF 'dactyllaw07.ViewApart'. -/
def viewApartUptoCard : Claim7 := { stood := { row := viewApartUptoRow, standIns := [], harness := (true, "eb7ece749ac17d7ab4912fddd7cf6d11f877ce40af0109cc50da3bc316b37db0"), looks := false }, kinds := [], alts := [], laidByText := true, laidKinds := [.data, .data], laidTests := true, laidLooks := .later }
def ViewApartUptoCardSaid : Prop := Claim7.holds Tryd.pinned (.plain (OpenSpec.upto viewApartSpec)) viewApartUptoCard

/-- THE SECOND FORM's CARD OF 'dactyllaw07.ViewText'. -/
def viewTextUptoCard : Claim7 := { stood := { row := viewTextUptoRow, standIns := [], harness := (true, "eb7ece749ac17d7ab4912fddd7cf6d11f877ce40af0109cc50da3bc316b37db0"), looks := false }, kinds := [], alts := [], laidByText := true, laidKinds := [.data, .data], laidTests := true, laidLooks := .later }
def ViewTextUptoCardSaid : Prop := Claim7.holds Tryd.pinned (.plain (OpenSpec.upto viewTextSpec)) viewTextUptoCard
end Rows
end Go.Proofs.YtpckldhojfjdmaaDoor
