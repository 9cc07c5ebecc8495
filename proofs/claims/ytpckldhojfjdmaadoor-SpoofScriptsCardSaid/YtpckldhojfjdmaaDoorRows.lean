/-
  NARROWER THAN 'FOR EVERY INPUT', by the rows' own cells (each row's printed sentence says how): TaintOnly: laid · ShowCells: laid · ShowApart: laid · ShowCols: laid · SpoofStrips: laid · SpoofAlike: laid · SpoofScripts: laid · ViewOf: laid · ViewMaps: laid · ViewApart: laid · ViewText: laid.
  DERIVED. THE GIVEN ROWS OF THIS SEAT. 11 by the template 'for every input the law returns true; each argument reads behind the call as it read before'; 0 by the template 'total and deterministic' (their statements: YtpckldhojfjdmaaDoorTotals.lean).
  GIVEN WITH THE SEED: the statements are not yours to turn. If you find one false, say at which input.
  Laid BY PROGRAM, IN A SANDBOX (cutbox-rows.mjs): the forced cells as the released guide's own fill.sh prints them over the translation da44eb175e2e0b70… (all of the seat's roots in one cut). By AI agents, Wed Nov 11 2026. No macro, syntax, notation, axiom, sorry.
-/
import Derived.Test.YtpckldhojfjdmaaDoorChecked
import GoSem.Claim
import GoSem.ClaimJoined
import GoSem.ClaimMapViews
import Derived.JoinedTies
import Derived.KernelRfl
namespace Go.Proofs.YtpckldhojfjdmaaDoor
/- THE CELL 'sum', in the pinned program and in every row, IS THE sha256 OF THE DUMP (.gsa) THAT YtpckldhojfjdmaaDoorProg.lean LOADS. Nothing in Lean hashes anything: it is a label: what it is worth is what the hold of that sum in a sandbox is worth. -/
noncomputable def Tryd.pinned : Pinned := { name := "ytpckldhojfjdmaadoor", sum := "da44eb175e2e0b7003b39bd4fa59611c1a1a293fb6e1de6b53c97a2f54898eb4", checked := Tryd.checked }
namespace Rows
def none {H : Type} : Left H := { results := [], args := [] }

/- WHAT THE LISTED PACKAGE-LEVEL VARIABLES READ AS WHEN THE CALL BEGINS. Each datum BY PROGRAM (the guide's laid-datum.mjs) off the statement by which the dump's own 'gosem.cut.vars' lays the variable. In a bare row this is a premise. The card (YtpckldhojfjdmaaDoorCards.lean) ties it to the program's text. -/
def laid_dactyl_class_ranges {H : Type} : DataW H := .agg [.lit (.int .i32 0), .lit (.int .i32 31), .lit (.int .i32 4), .lit (.int .i32 127), .lit (.int .i32 127), .lit (.int .i32 5), .lit (.int .i32 128), .lit (.int .i32 159), .lit (.int .i32 6), .lit (.int .i32 160), .lit (.int .i32 160), .lit (.int .i32 10), .lit (.int .i32 5760), .lit (.int .i32 5760), .lit (.int .i32 10), .lit (.int .i32 8192), .lit (.int .i32 8202), .lit (.int .i32 10), .lit (.int .i32 8232), .lit (.int .i32 8233), .lit (.int .i32 10), .lit (.int .i32 8239), .lit (.int .i32 8239), .lit (.int .i32 10), .lit (.int .i32 8287), .lit (.int .i32 8287), .lit (.int .i32 10), .lit (.int .i32 12288), .lit (.int .i32 12288), .lit (.int .i32 10), .lit (.int .i32 173), .lit (.int .i32 173), .lit (.int .i32 8), .lit (.int .i32 6155), .lit (.int .i32 6158), .lit (.int .i32 8), .lit (.int .i32 8203), .lit (.int .i32 8205), .lit (.int .i32 8), .lit (.int .i32 8288), .lit (.int .i32 8292), .lit (.int .i32 8), .lit (.int .i32 65279), .lit (.int .i32 65279), .lit (.int .i32 8), .lit (.int .i32 65529), .lit (.int .i32 65531), .lit (.int .i32 8), .lit (.int .i32 1564), .lit (.int .i32 1564), .lit (.int .i32 7), .lit (.int .i32 8206), .lit (.int .i32 8207), .lit (.int .i32 7), .lit (.int .i32 8234), .lit (.int .i32 8238), .lit (.int .i32 7), .lit (.int .i32 8294), .lit (.int .i32 8297), .lit (.int .i32 7), .lit (.int .i32 768), .lit (.int .i32 879), .lit (.int .i32 9), .lit (.int .i32 1155), .lit (.int .i32 1161), .lit (.int .i32 9), .lit (.int .i32 1425), .lit (.int .i32 1469), .lit (.int .i32 9), .lit (.int .i32 1552), .lit (.int .i32 1562), .lit (.int .i32 9), .lit (.int .i32 1611), .lit (.int .i32 1631), .lit (.int .i32 9), .lit (.int .i32 1750), .lit (.int .i32 1756), .lit (.int .i32 9), .lit (.int .i32 6832), .lit (.int .i32 6862), .lit (.int .i32 9), .lit (.int .i32 7616), .lit (.int .i32 7679), .lit (.int .i32 9), .lit (.int .i32 8400), .lit (.int .i32 8432), .lit (.int .i32 9), .lit (.int .i32 12330), .lit (.int .i32 12335), .lit (.int .i32 9), .lit (.int .i32 12441), .lit (.int .i32 12442), .lit (.int .i32 9), .lit (.int .i32 65024), .lit (.int .i32 65039), .lit (.int .i32 9), .lit (.int .i32 65056), .lit (.int .i32 65071), .lit (.int .i32 9), .lit (.int .i32 57344), .lit (.int .i32 63743), .lit (.int .i32 11), .lit (.int .i32 64976), .lit (.int .i32 65007), .lit (.int .i32 11), .lit (.int .i32 65520), .lit (.int .i32 65528), .lit (.int .i32 11), .lit (.int .i32 65534), .lit (.int .i32 65535), .lit (.int .i32 11), .lit (.int .i32 131070), .lit (.int .i32 131071), .lit (.int .i32 11), .lit (.int .i32 262142), .lit (.int .i32 1114111), .lit (.int .i32 11), .lit (.int .i32 4352), .lit (.int .i32 4447), .lit (.int .i32 2), .lit (.int .i32 8986), .lit (.int .i32 8987), .lit (.int .i32 2), .lit (.int .i32 11904), .lit (.int .i32 12287), .lit (.int .i32 2), .lit (.int .i32 12289), .lit (.int .i32 12350), .lit (.int .i32 2), .lit (.int .i32 12353), .lit (.int .i32 13311), .lit (.int .i32 2), .lit (.int .i32 13312), .lit (.int .i32 19903), .lit (.int .i32 2), .lit (.int .i32 19968), .lit (.int .i32 42191), .lit (.int .i32 2), .lit (.int .i32 43360), .lit (.int .i32 43391), .lit (.int .i32 2), .lit (.int .i32 44032), .lit (.int .i32 55203), .lit (.int .i32 2), .lit (.int .i32 63744), .lit (.int .i32 64255), .lit (.int .i32 2), .lit (.int .i32 65072), .lit (.int .i32 65135), .lit (.int .i32 2), .lit (.int .i32 65280), .lit (.int .i32 65376), .lit (.int .i32 2), .lit (.int .i32 65504), .lit (.int .i32 65510), .lit (.int .i32 2), .lit (.int .i32 127744), .lit (.int .i32 128591), .lit (.int .i32 2), .lit (.int .i32 128640), .lit (.int .i32 128767), .lit (.int .i32 2), .lit (.int .i32 129280), .lit (.int .i32 129535), .lit (.int .i32 2), .lit (.int .i32 131072), .lit (.int .i32 262141), .lit (.int .i32 2)]
def laid_dactyl_class_looks {H : Type} : DataW H := .agg [.lit (.int .i32 913), .lit (.int .i32 65), .lit (.int .i32 914), .lit (.int .i32 66), .lit (.int .i32 917), .lit (.int .i32 69), .lit (.int .i32 918), .lit (.int .i32 90), .lit (.int .i32 919), .lit (.int .i32 72), .lit (.int .i32 921), .lit (.int .i32 73), .lit (.int .i32 922), .lit (.int .i32 75), .lit (.int .i32 924), .lit (.int .i32 77), .lit (.int .i32 925), .lit (.int .i32 78), .lit (.int .i32 927), .lit (.int .i32 79), .lit (.int .i32 929), .lit (.int .i32 80), .lit (.int .i32 932), .lit (.int .i32 84), .lit (.int .i32 933), .lit (.int .i32 89), .lit (.int .i32 935), .lit (.int .i32 88), .lit (.int .i32 957), .lit (.int .i32 118), .lit (.int .i32 959), .lit (.int .i32 111), .lit (.int .i32 961), .lit (.int .i32 112), .lit (.int .i32 1029), .lit (.int .i32 83), .lit (.int .i32 1030), .lit (.int .i32 73), .lit (.int .i32 1032), .lit (.int .i32 74), .lit (.int .i32 1040), .lit (.int .i32 65), .lit (.int .i32 1042), .lit (.int .i32 66), .lit (.int .i32 1045), .lit (.int .i32 69), .lit (.int .i32 1050), .lit (.int .i32 75), .lit (.int .i32 1052), .lit (.int .i32 77), .lit (.int .i32 1053), .lit (.int .i32 72), .lit (.int .i32 1054), .lit (.int .i32 79), .lit (.int .i32 1056), .lit (.int .i32 80), .lit (.int .i32 1057), .lit (.int .i32 67), .lit (.int .i32 1058), .lit (.int .i32 84), .lit (.int .i32 1061), .lit (.int .i32 88), .lit (.int .i32 1072), .lit (.int .i32 97), .lit (.int .i32 1077), .lit (.int .i32 101), .lit (.int .i32 1086), .lit (.int .i32 111), .lit (.int .i32 1088), .lit (.int .i32 112), .lit (.int .i32 1089), .lit (.int .i32 99), .lit (.int .i32 1091), .lit (.int .i32 121), .lit (.int .i32 1093), .lit (.int .i32 120), .lit (.int .i32 1109), .lit (.int .i32 115), .lit (.int .i32 1110), .lit (.int .i32 105), .lit (.int .i32 1112), .lit (.int .i32 106), .lit (.int .i32 1281), .lit (.int .i32 100), .lit (.int .i32 1307), .lit (.int .i32 113), .lit (.int .i32 1309), .lit (.int .i32 119), .lit (.int .i32 894), .lit (.int .i32 59), .lit (.int .i32 8208), .lit (.int .i32 45), .lit (.int .i32 8722), .lit (.int .i32 45), .lit (.int .i32 8260), .lit (.int .i32 47), .lit (.int .i32 8725), .lit (.int .i32 47), .lit (.int .i32 8228), .lit (.int .i32 46), .lit (.int .i32 8218), .lit (.int .i32 44)]

/-- 'dactyllaw43.TaintOnly': WHATEVER THE INPUT: true; the input reads as it did. -/
def taintOnlySpec : ChangeSpec := { name := "taintOnly", fn := fun _ => fun
  | [d1, d2] => { results := [.lit (.bool true)], args := [d1, d2] }
  | _ => none }
def taintOnlyRow : OpenClaim := { program := "ytpckldhojfjdmaadoor", sum := "da44eb175e2e0b7003b39bd4fa59611c1a1a293fb6e1de6b53c97a2f54898eb4", func := "dactyl/dactyllaw43.TaintOnly", spec := "taintOnly", inPlace := ["internal/abi.NoEscape", "internal/bytealg.MakeNoZero"], unfollowed := true, recurses := true, named := ["dactyl/class.ranges", "dactyl/class.looks"], apart := false, laid := [("dactyl/class.ranges", laid_dactyl_class_ranges), ("dactyl/class.looks", laid_dactyl_class_looks)] }
def TaintOnlySaid : Prop := taintOnlyRow.holds Tryd.pinned (OpenSpec.ofChange taintOnlySpec)

/-- ITS FALSE NEIGHBOUR: 'it returns false'. Refute it at one input. -/
def taintOnlyWrong : ChangeSpec := { name := "taintOnly", fn := fun _ => fun
  | [d1, d2] => { results := [.lit (.bool false)], args := [d1, d2] }
  | _ => none }
def TaintOnlyWrongFalsely : Prop := taintOnlyRow.holds Tryd.pinned (OpenSpec.ofChange taintOnlyWrong)

/-- 'dactyllaw06.ShowCells': WHATEVER THE INPUT: true; the input reads as it did. -/
def showCellsSpec : ChangeSpec := { name := "showCells", fn := fun _ => fun
  | [d1, d2, d3] => { results := [.lit (.bool true)], args := [d1, d2, d3] }
  | _ => none }
def showCellsRow : OpenClaim := { program := "ytpckldhojfjdmaadoor", sum := "da44eb175e2e0b7003b39bd4fa59611c1a1a293fb6e1de6b53c97a2f54898eb4", func := "dactyl/dactyllaw06.ShowCells", spec := "showCells", inPlace := ["internal/abi.NoEscape", "internal/bytealg.MakeNoZero"], unfollowed := true, recurses := true, named := ["dactyl/class.ranges", "dactyl/class.looks"], apart := false, laid := [("dactyl/class.ranges", laid_dactyl_class_ranges), ("dactyl/class.looks", laid_dactyl_class_looks)] }
def ShowCellsSaid : Prop := showCellsRow.holds Tryd.pinned (OpenSpec.ofChange showCellsSpec)

/-- ITS FALSE NEIGHBOUR: 'it returns false'. Refute it at one input. -/
def showCellsWrong : ChangeSpec := { name := "showCells", fn := fun _ => fun
  | [d1, d2, d3] => { results := [.lit (.bool false)], args := [d1, d2, d3] }
  | _ => none }
def ShowCellsWrongFalsely : Prop := showCellsRow.holds Tryd.pinned (OpenSpec.ofChange showCellsWrong)

/-- 'dactyllaw06.ShowApart': WHATEVER THE INPUT: true; the input reads as it did. -/
def showApartSpec : ChangeSpec := { name := "showApart", fn := fun _ => fun
  | [d1, d2] => { results := [.lit (.bool true)], args := [d1, d2] }
  | _ => none }
def showApartRow : OpenClaim := { program := "ytpckldhojfjdmaadoor", sum := "da44eb175e2e0b7003b39bd4fa59611c1a1a293fb6e1de6b53c97a2f54898eb4", func := "dactyl/dactyllaw06.ShowApart", spec := "showApart", inPlace := ["internal/abi.NoEscape", "internal/bytealg.MakeNoZero"], unfollowed := true, recurses := true, named := ["dactyl/class.ranges", "dactyl/class.looks"], apart := false, laid := [("dactyl/class.ranges", laid_dactyl_class_ranges), ("dactyl/class.looks", laid_dactyl_class_looks)] }
def ShowApartSaid : Prop := showApartRow.holds Tryd.pinned (OpenSpec.ofChange showApartSpec)

/-- ITS FALSE NEIGHBOUR: 'it returns false'. Refute it at one input. -/
def showApartWrong : ChangeSpec := { name := "showApart", fn := fun _ => fun
  | [d1, d2] => { results := [.lit (.bool false)], args := [d1, d2] }
  | _ => none }
def ShowApartWrongFalsely : Prop := showApartRow.holds Tryd.pinned (OpenSpec.ofChange showApartWrong)

/-- 'dactyllaw06.ShowCols': WHATEVER THE INPUT: true; the input reads as it did. -/
def showColsSpec : ChangeSpec := { name := "showCols", fn := fun _ => fun
  | [d] => { results := [.lit (.bool true)], args := [d] }
  | _ => none }
def showColsRow : OpenClaim := { program := "ytpckldhojfjdmaadoor", sum := "da44eb175e2e0b7003b39bd4fa59611c1a1a293fb6e1de6b53c97a2f54898eb4", func := "dactyl/dactyllaw06.ShowCols", spec := "showCols", inPlace := ["internal/abi.NoEscape", "internal/bytealg.MakeNoZero"], unfollowed := true, recurses := true, named := ["dactyl/class.ranges", "dactyl/class.looks"], apart := false, laid := [("dactyl/class.ranges", laid_dactyl_class_ranges), ("dactyl/class.looks", laid_dactyl_class_looks)] }
def ShowColsSaid : Prop := showColsRow.holds Tryd.pinned (OpenSpec.ofChange showColsSpec)

/-- ITS FALSE NEIGHBOUR: 'it returns false'. Refute it at one input. -/
def showColsWrong : ChangeSpec := { name := "showCols", fn := fun _ => fun
  | [d] => { results := [.lit (.bool false)], args := [d] }
  | _ => none }
def ShowColsWrongFalsely : Prop := showColsRow.holds Tryd.pinned (OpenSpec.ofChange showColsWrong)

/-- 'dactyllaw44.SpoofStrips': WHATEVER THE INPUT: true; the input reads as it did. -/
def spoofStripsSpec : ChangeSpec := { name := "spoofStrips", fn := fun _ => fun
  | [d] => { results := [.lit (.bool true)], args := [d] }
  | _ => none }
def spoofStripsRow : OpenClaim := { program := "ytpckldhojfjdmaadoor", sum := "da44eb175e2e0b7003b39bd4fa59611c1a1a293fb6e1de6b53c97a2f54898eb4", func := "dactyl/dactyllaw44.SpoofStrips", spec := "spoofStrips", inPlace := ["internal/abi.NoEscape", "internal/bytealg.MakeNoZero"], unfollowed := true, recurses := true, named := ["dactyl/class.ranges", "dactyl/class.looks"], apart := false, laid := [("dactyl/class.ranges", laid_dactyl_class_ranges), ("dactyl/class.looks", laid_dactyl_class_looks)] }
def SpoofStripsSaid : Prop := spoofStripsRow.holds Tryd.pinned (OpenSpec.ofChange spoofStripsSpec)

/-- ITS FALSE NEIGHBOUR: 'it returns false'. Refute it at one input. -/
def spoofStripsWrong : ChangeSpec := { name := "spoofStrips", fn := fun _ => fun
  | [d] => { results := [.lit (.bool false)], args := [d] }
  | _ => none }
def SpoofStripsWrongFalsely : Prop := spoofStripsRow.holds Tryd.pinned (OpenSpec.ofChange spoofStripsWrong)

/-- 'dactyllaw44.SpoofAlike': WHATEVER THE INPUT: true; the input reads as it did. -/
def spoofAlikeSpec : ChangeSpec := { name := "spoofAlike", fn := fun _ => fun
  | [d1, d2, d3] => { results := [.lit (.bool true)], args := [d1, d2, d3] }
  | _ => none }
def spoofAlikeRow : OpenClaim := { program := "ytpckldhojfjdmaadoor", sum := "da44eb175e2e0b7003b39bd4fa59611c1a1a293fb6e1de6b53c97a2f54898eb4", func := "dactyl/dactyllaw44.SpoofAlike", spec := "spoofAlike", inPlace := ["internal/abi.NoEscape", "internal/bytealg.MakeNoZero"], unfollowed := true, recurses := true, named := ["dactyl/class.ranges", "dactyl/class.looks"], apart := false, laid := [("dactyl/class.ranges", laid_dactyl_class_ranges), ("dactyl/class.looks", laid_dactyl_class_looks)] }
def SpoofAlikeSaid : Prop := spoofAlikeRow.holds Tryd.pinned (OpenSpec.ofChange spoofAlikeSpec)

/-- ITS FALSE NEIGHBOUR: 'it returns false'. Refute it at one input. -/
def spoofAlikeWrong : ChangeSpec := { name := "spoofAlike", fn := fun _ => fun
  | [d1, d2, d3] => { results := [.lit (.bool false)], args := [d1, d2, d3] }
  | _ => none }
def SpoofAlikeWrongFalsely : Prop := spoofAlikeRow.holds Tryd.pinned (OpenSpec.ofChange spoofAlikeWrong)

/-- 'dactyllaw44.SpoofScripts': WHATEVER THE INPUT: true; the input reads as it did. -/
def spoofScriptsSpec : ChangeSpec := { name := "spoofScripts", fn := fun _ => fun
  | [d1, d2] => { results := [.lit (.bool true)], args := [d1, d2] }
  | _ => none }
def spoofScriptsRow : OpenClaim := { program := "ytpckldhojfjdmaadoor", sum := "da44eb175e2e0b7003b39bd4fa59611c1a1a293fb6e1de6b53c97a2f54898eb4", func := "dactyl/dactyllaw44.SpoofScripts", spec := "spoofScripts", inPlace := ["internal/abi.NoEscape", "internal/bytealg.MakeNoZero"], unfollowed := true, recurses := true, named := ["dactyl/class.ranges", "dactyl/class.looks"], apart := false, laid := [("dactyl/class.ranges", laid_dactyl_class_ranges), ("dactyl/class.looks", laid_dactyl_class_looks)] }
def SpoofScriptsSaid : Prop := spoofScriptsRow.holds Tryd.pinned (OpenSpec.ofChange spoofScriptsSpec)

/-- ITS FALSE NEIGHBOUR: 'it returns false'. Refute it at one input. -/
def spoofScriptsWrong : ChangeSpec := { name := "spoofScripts", fn := fun _ => fun
  | [d1, d2] => { results := [.lit (.bool false)], args := [d1, d2] }
  | _ => none }
def SpoofScriptsWrongFalsely : Prop := spoofScriptsRow.holds Tryd.pinned (OpenSpec.ofChange spoofScriptsWrong)

/-- 'dactyllaw07.ViewOf': WHATEVER THE INPUT: true; the input reads as it did. -/
def viewOfSpec : ChangeSpec := { name := "viewOf", fn := fun _ => fun
  | [d1, d2] => { results := [.lit (.bool true)], args := [d1, d2] }
  | _ => none }
def viewOfRow : OpenClaim := { program := "ytpckldhojfjdmaadoor", sum := "da44eb175e2e0b7003b39bd4fa59611c1a1a293fb6e1de6b53c97a2f54898eb4", func := "dactyl/dactyllaw07.ViewOf", spec := "viewOf", inPlace := ["internal/abi.NoEscape", "internal/bytealg.MakeNoZero"], unfollowed := true, recurses := true, named := ["dactyl/class.ranges", "dactyl/class.looks"], apart := false, laid := [("dactyl/class.ranges", laid_dactyl_class_ranges), ("dactyl/class.looks", laid_dactyl_class_looks)] }
def ViewOfSaid : Prop := viewOfRow.holds Tryd.pinned (OpenSpec.ofChange viewOfSpec)

/-- ITS FALSE NEIGHBOUR: 'it returns false'. Refute it at one input. -/
def viewOfWrong : ChangeSpec := { name := "viewOf", fn := fun _ => fun
  | [d1, d2] => { results := [.lit (.bool false)], args := [d1, d2] }
  | _ => none }
def ViewOfWrongFalsely : Prop := viewOfRow.holds Tryd.pinned (OpenSpec.ofChange viewOfWrong)

/-- 'dactyllaw07.ViewMaps': WHATEVER THE INPUT: true; the input reads as it did. -/
def viewMapsSpec : ChangeSpec := { name := "viewMaps", fn := fun _ => fun
  | [d1, d2] => { results := [.lit (.bool true)], args := [d1, d2] }
  | _ => none }
def viewMapsRow : OpenClaim := { program := "ytpckldhojfjdmaadoor", sum := "da44eb175e2e0b7003b39bd4fa59611c1a1a293fb6e1de6b53c97a2f54898eb4", func := "dactyl/dactyllaw07.ViewMaps", spec := "viewMaps", inPlace := ["internal/abi.NoEscape", "internal/bytealg.MakeNoZero"], unfollowed := true, recurses := true, named := ["dactyl/class.ranges", "dactyl/class.looks"], apart := false, laid := [("dactyl/class.ranges", laid_dactyl_class_ranges), ("dactyl/class.looks", laid_dactyl_class_looks)] }
def ViewMapsSaid : Prop := viewMapsRow.holds Tryd.pinned (OpenSpec.ofChange viewMapsSpec)

/-- ITS FALSE NEIGHBOUR: 'it returns false'. Refute it at one input. -/
def viewMapsWrong : ChangeSpec := { name := "viewMaps", fn := fun _ => fun
  | [d1, d2] => { results := [.lit (.bool false)], args := [d1, d2] }
  | _ => none }
def ViewMapsWrongFalsely : Prop := viewMapsRow.holds Tryd.pinned (OpenSpec.ofChange viewMapsWrong)

/-- 'dactyllaw07.ViewApart': WHATEVER THE INPUT: true; the input reads as it did. -/
def viewApartSpec : ChangeSpec := { name := "viewApart", fn := fun _ => fun
  | [d1, d2, d3] => { results := [.lit (.bool true)], args := [d1, d2, d3] }
  | _ => none }
def viewApartRow : OpenClaim := { program := "ytpckldhojfjdmaadoor", sum := "da44eb175e2e0b7003b39bd4fa59611c1a1a293fb6e1de6b53c97a2f54898eb4", func := "dactyl/dactyllaw07.ViewApart", spec := "viewApart", inPlace := ["internal/abi.NoEscape", "internal/bytealg.MakeNoZero"], unfollowed := true, recurses := true, named := ["dactyl/class.ranges", "dactyl/class.looks"], apart := false, laid := [("dactyl/class.ranges", laid_dactyl_class_ranges), ("dactyl/class.looks", laid_dactyl_class_looks)] }
def ViewApartSaid : Prop := viewApartRow.holds Tryd.pinned (OpenSpec.ofChange viewApartSpec)

/-- ITS FALSE NEIGHBOUR: 'it returns false'. Refute it at one input. -/
def viewApartWrong : ChangeSpec := { name := "viewApart", fn := fun _ => fun
  | [d1, d2, d3] => { results := [.lit (.bool false)], args := [d1, d2, d3] }
  | _ => none }
def ViewApartWrongFalsely : Prop := viewApartRow.holds Tryd.pinned (OpenSpec.ofChange viewApartWrong)

/-- 'dactyllaw07.ViewText': WHATEVER THE INPUT: true; the input reads as it did. -/
def viewTextSpec : ChangeSpec := { name := "viewText", fn := fun _ => fun
  | [d1, d2] => { results := [.lit (.bool true)], args := [d1, d2] }
  | _ => none }
def viewTextRow : OpenClaim := { program := "ytpckldhojfjdmaadoor", sum := "da44eb175e2e0b7003b39bd4fa59611c1a1a293fb6e1de6b53c97a2f54898eb4", func := "dactyl/dactyllaw07.ViewText", spec := "viewText", inPlace := ["internal/abi.NoEscape", "internal/bytealg.MakeNoZero"], unfollowed := true, recurses := true, named := ["dactyl/class.ranges", "dactyl/class.looks"], apart := false, laid := [("dactyl/class.ranges", laid_dactyl_class_ranges), ("dactyl/class.looks", laid_dactyl_class_looks)] }
def ViewTextSaid : Prop := viewTextRow.holds Tryd.pinned (OpenSpec.ofChange viewTextSpec)

/-- ITS FALSE NEIGHBOUR: 'it returns false'. Refute it at one input. -/
def viewTextWrong : ChangeSpec := { name := "viewText", fn := fun _ => fun
  | [d1, d2] => { results := [.lit (.bool false)], args := [d1, d2] }
  | _ => none }
def ViewTextWrongFalsely : Prop := viewTextRow.holds Tryd.pinned (OpenSpec.ofChange viewTextWrong)

/- THE SECOND FORM. 'bulk': how many values and letters a reading holds, each counted each time it is reached (what is shared counts as often as it is met; a slice's spare places count too). A statement '..UptoSaid' is the law's where the arguments, and the package variables that the reading takes, are together of bulk at most 1048576: NARROWER than '..Said'. Prove '..Said' where nothing that the law and all that it calls make is longer than what came in: it says more and counts as full. Else prove '..UptoSaid'. A law counts once. -/
mutual
def uptoBulk {H : Type} : DataW H → Nat
  | .lit (.string bytes) => bytes.length + 1
  | .lit _ => 1
  | .nil => 1
  | .ptr d => uptoBulk d + 1
  | .slice elems spare => uptoBulkAll elems + uptoBulkAll spare + 1
  | .agg parts => uptoBulkAll parts + 1
  | .iface _ d => uptoBulk d + 1
  | .map entries => uptoBulkEntries entries + 1
  | .held _ => 1
def uptoBulkAll {H : Type} : List (DataW H) → Nat
  | [] => 0
  | d :: r => uptoBulk d + uptoBulkAll r
def uptoBulkEntries {H : Type} : List (Lit × DataW H) → Nat
  | [] => 0
  | x :: r => uptoBulkEntry x + uptoBulkEntries r
def uptoBulkEntry {H : Type} : Lit × DataW H → Nat
  | (.string bytes, d) => bytes.length + uptoBulk d + 1
  | (_, d) => uptoBulk d + 1
 end
def uptoSmall : (H : Type) → List (DataW H) → Bool := fun _ ds => decide (uptoBulkAll ds ≤ 1048576)
def OpenSpec.upto (s : _root_.Go.ChangeSpec) : _root_.Go.OpenSpec := { _root_.Go.OpenSpec.ofChange s with cond := some uptoSmall }

/-- 'dactyllaw43.TaintOnly', WHERE WHAT IT READS IS OF BULK AT MOST 1048576: true; the input reads as it did. -/
def taintOnlyUptoRow : OpenClaim := { program := "ytpckldhojfjdmaadoor", sum := "da44eb175e2e0b7003b39bd4fa59611c1a1a293fb6e1de6b53c97a2f54898eb4", func := "dactyl/dactyllaw43.TaintOnly", spec := "taintOnly", inPlace := ["internal/abi.NoEscape", "internal/bytealg.MakeNoZero"], unfollowed := true, recurses := true, named := ["dactyl/class.ranges", "dactyl/class.looks"], apart := false, laid := [("dactyl/class.ranges", laid_dactyl_class_ranges), ("dactyl/class.looks", laid_dactyl_class_looks)], narrowed := true }
def TaintOnlyUptoSaid : Prop := taintOnlyUptoRow.holds Tryd.pinned (OpenSpec.upto taintOnlySpec)

/-- 'dactyllaw06.ShowCells', WHERE WHAT IT READS IS OF BULK AT MOST 1048576: true; the input reads as it did. -/
def showCellsUptoRow : OpenClaim := { program := "ytpckldhojfjdmaadoor", sum := "da44eb175e2e0b7003b39bd4fa59611c1a1a293fb6e1de6b53c97a2f54898eb4", func := "dactyl/dactyllaw06.ShowCells", spec := "showCells", inPlace := ["internal/abi.NoEscape", "internal/bytealg.MakeNoZero"], unfollowed := true, recurses := true, named := ["dactyl/class.ranges", "dactyl/class.looks"], apart := false, laid := [("dactyl/class.ranges", laid_dactyl_class_ranges), ("dactyl/class.looks", laid_dactyl_class_looks)], narrowed := true }
def ShowCellsUptoSaid : Prop := showCellsUptoRow.holds Tryd.pinned (OpenSpec.upto showCellsSpec)

/-- 'dactyllaw06.ShowApart', WHERE WHAT IT READS IS OF BULK AT MOST 1048576: true; the input reads as it did. -/
def showApartUptoRow : OpenClaim := { program := "ytpckldhojfjdmaadoor", sum := "da44eb175e2e0b7003b39bd4fa59611c1a1a293fb6e1de6b53c97a2f54898eb4", func := "dactyl/dactyllaw06.ShowApart", spec := "showApart", inPlace := ["internal/abi.NoEscape", "internal/bytealg.MakeNoZero"], unfollowed := true, recurses := true, named := ["dactyl/class.ranges", "dactyl/class.looks"], apart := false, laid := [("dactyl/class.ranges", laid_dactyl_class_ranges), ("dactyl/class.looks", laid_dactyl_class_looks)], narrowed := true }
def ShowApartUptoSaid : Prop := showApartUptoRow.holds Tryd.pinned (OpenSpec.upto showApartSpec)

/-- 'dactyllaw06.ShowCols', WHERE WHAT IT READS IS OF BULK AT MOST 1048576: true; the input reads as it did. -/
def showColsUptoRow : OpenClaim := { program := "ytpckldhojfjdmaadoor", sum := "da44eb175e2e0b7003b39bd4fa59611c1a1a293fb6e1de6b53c97a2f54898eb4", func := "dactyl/dactyllaw06.ShowCols", spec := "showCols", inPlace := ["internal/abi.NoEscape", "internal/bytealg.MakeNoZero"], unfollowed := true, recurses := true, named := ["dactyl/class.ranges", "dactyl/class.looks"], apart := false, laid := [("dactyl/class.ranges", laid_dactyl_class_ranges), ("dactyl/class.looks", laid_dactyl_class_looks)], narrowed := true }
def ShowColsUptoSaid : Prop := showColsUptoRow.holds Tryd.pinned (OpenSpec.upto showColsSpec)

/-- 'dactyllaw44.SpoofStrips', WHERE WHAT IT READS IS OF BULK AT MOST 1048576: true; the input reads as it did. -/
def spoofStripsUptoRow : OpenClaim := { program := "ytpckldhojfjdmaadoor", sum := "da44eb175e2e0b7003b39bd4fa59611c1a1a293fb6e1de6b53c97a2f54898eb4", func := "dactyl/dactyllaw44.SpoofStrips", spec := "spoofStrips", inPlace := ["internal/abi.NoEscape", "internal/bytealg.MakeNoZero"], unfollowed := true, recurses := true, named := ["dactyl/class.ranges", "dactyl/class.looks"], apart := false, laid := [("dactyl/class.ranges", laid_dactyl_class_ranges), ("dactyl/class.looks", laid_dactyl_class_looks)], narrowed := true }
def SpoofStripsUptoSaid : Prop := spoofStripsUptoRow.holds Tryd.pinned (OpenSpec.upto spoofStripsSpec)

/-- 'dactyllaw44.SpoofAlike', WHERE WHAT IT READS IS OF BULK AT MOST 1048576: true; the input reads as it did. -/
def spoofAlikeUptoRow : OpenClaim := { program := "ytpckldhojfjdmaadoor", sum := "da44eb175e2e0b7003b39bd4fa59611c1a1a293fb6e1de6b53c97a2f54898eb4", func := "dactyl/dactyllaw44.SpoofAlike", spec := "spoofAlike", inPlace := ["internal/abi.NoEscape", "internal/bytealg.MakeNoZero"], unfollowed := true, recurses := true, named := ["dactyl/class.ranges", "dactyl/class.looks"], apart := false, laid := [("dactyl/class.ranges", laid_dactyl_class_ranges), ("dactyl/class.looks", laid_dactyl_class_looks)], narrowed := true }
def SpoofAlikeUptoSaid : Prop := spoofAlikeUptoRow.holds Tryd.pinned (OpenSpec.upto spoofAlikeSpec)

/-- 'dactyllaw44.SpoofScripts', WHERE WHAT IT READS IS OF BULK AT MOST 1048576: true; the input reads as it did. -/
def spoofScriptsUptoRow : OpenClaim := { program := "ytpckldhojfjdmaadoor", sum := "da44eb175e2e0b7003b39bd4fa59611c1a1a293fb6e1de6b53c97a2f54898eb4", func := "dactyl/dactyllaw44.SpoofScripts", spec := "spoofScripts", inPlace := ["internal/abi.NoEscape", "internal/bytealg.MakeNoZero"], unfollowed := true, recurses := true, named := ["dactyl/class.ranges", "dactyl/class.looks"], apart := false, laid := [("dactyl/class.ranges", laid_dactyl_class_ranges), ("dactyl/class.looks", laid_dactyl_class_looks)], narrowed := true }
def SpoofScriptsUptoSaid : Prop := spoofScriptsUptoRow.holds Tryd.pinned (OpenSpec.upto spoofScriptsSpec)

/-- 'dactyllaw07.ViewOf', WHERE WHAT IT READS IS OF BULK AT MOST 1048576: true; the input reads as it did. -/
def viewOfUptoRow : OpenClaim := { program := "ytpckldhojfjdmaadoor", sum := "da44eb175e2e0b7003b39bd4fa59611c1a1a293fb6e1de6b53c97a2f54898eb4", func := "dactyl/dactyllaw07.ViewOf", spec := "viewOf", inPlace := ["internal/abi.NoEscape", "internal/bytealg.MakeNoZero"], unfollowed := true, recurses := true, named := ["dactyl/class.ranges", "dactyl/class.looks"], apart := false, laid := [("dactyl/class.ranges", laid_dactyl_class_ranges), ("dactyl/class.looks", laid_dactyl_class_looks)], narrowed := true }
def ViewOfUptoSaid : Prop := viewOfUptoRow.holds Tryd.pinned (OpenSpec.upto viewOfSpec)

/-- 'dactyllaw07.ViewMaps', WHERE WHAT IT READS IS OF BULK AT MOST 1048576: true; the input reads as it did. -/
def viewMapsUptoRow : OpenClaim := { program := "ytpckldhojfjdmaadoor", sum := "da44eb175e2e0b7003b39bd4fa59611c1a1a293fb6e1de6b53c97a2f54898eb4", func := "dactyl/dactyllaw07.ViewMaps", spec := "viewMaps", inPlace := ["internal/abi.NoEscape", "internal/bytealg.MakeNoZero"], unfollowed := true, recurses := true, named := ["dactyl/class.ranges", "dactyl/class.looks"], apart := false, laid := [("dactyl/class.ranges", laid_dactyl_class_ranges), ("dactyl/class.looks", laid_dactyl_class_looks)], narrowed := true }
def ViewMapsUptoSaid : Prop := viewMapsUptoRow.holds Tryd.pinned (OpenSpec.upto viewMapsSpec)

/-- 'dactyllaw07.ViewApart', WHERE WHAT IT READS IS OF BULK AT MOST 1048576: true; the input reads as it did. -/
def viewApartUptoRow : OpenClaim := { program := "ytpckldhojfjdmaadoor", sum := "da44eb175e2e0b7003b39bd4fa59611c1a1a293fb6e1de6b53c97a2f54898eb4", func := "dactyl/dactyllaw07.ViewApart", spec := "viewApart", inPlace := ["internal/abi.NoEscape", "internal/bytealg.MakeNoZero"], unfollowed := true, recurses := true, named := ["dactyl/class.ranges", "dactyl/class.looks"], apart := false, laid := [("dactyl/class.ranges", laid_dactyl_class_ranges), ("dactyl/class.looks", laid_dactyl_class_looks)], narrowed := true }
def ViewApartUptoSaid : Prop := viewApartUptoRow.holds Tryd.pinned (OpenSpec.upto viewApartSpec)

/-- 'dactyllaw07.ViewText', WHERE WHAT IT READS IS OF BULK AT MOST 1048576: true; the input reads as it did. -/
def viewTextUptoRow : OpenClaim := { program := "ytpckldhojfjdmaadoor", sum := "da44eb175e2e0b7003b39bd4fa59611c1a1a293fb6e1de6b53c97a2f54898eb4", func := "dactyl/dactyllaw07.ViewText", spec := "viewText", inPlace := ["internal/abi.NoEscape", "internal/bytealg.MakeNoZero"], unfollowed := true, recurses := true, named := ["dactyl/class.ranges", "dactyl/class.looks"], apart := false, laid := [("dactyl/class.ranges", laid_dactyl_class_ranges), ("dactyl/class.looks", laid_dactyl_class_looks)], narrowed := true }
def ViewTextUptoSaid : Prop := viewTextUptoRow.holds Tryd.pinned (OpenSpec.upto viewTextSpec)

end Rows
end Go.Proofs.YtpckldhojfjdmaaDoor
