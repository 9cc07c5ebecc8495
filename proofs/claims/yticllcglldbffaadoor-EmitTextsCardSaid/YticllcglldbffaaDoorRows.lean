/-
  NARROWER THAN 'FOR EVERY INPUT', by the rows' own cells (each row's printed sentence says how): KeyNames: laid · KeyParses: laid · EmitTexts: laid · EmitParses: laid · EmitControls: laid · EmitCloses: laid · AuditPlace: laid.
  DERIVED. THE GIVEN ROWS OF THIS SEAT. 7 by the template 'for every input the law returns true; each argument reads behind the call as it read before'; 0 by the template 'total and deterministic' (their statements: YticllcglldbffaaDoorTotals.lean).
  GIVEN WITH THE SEED: the statements are not yours to turn. If you find one false, say at which input.
  Laid BY PROGRAM, IN A SANDBOX (cutbox-rows.mjs): the forced cells as the released guide's own fill.sh prints them over the translation 09f6c87adf342ad6… (all of the seat's roots in one cut). By AI agents, Wed Nov 11 2026. No macro, syntax, notation, axiom, sorry.
-/
import Derived.Test.YticllcglldbffaaDoorChecked
import GoSem.Claim
import GoSem.ClaimJoined
import GoSem.ClaimMapViews
import Derived.JoinedTies
import Derived.KernelRfl
namespace Go.Proofs.YticllcglldbffaaDoor
/- THE CELL 'sum', in the pinned program and in every row, IS THE sha256 OF THE DUMP (.gsa) THAT YticllcglldbffaaDoorProg.lean LOADS. Nothing in Lean hashes anything: it is a label: what it is worth is what the hold of that sum in a sandbox is worth. -/
noncomputable def Tryd.pinned : Pinned := { name := "yticllcglldbffaadoor", sum := "09f6c87adf342ad6854cfdad14c4520de5526b79788e99ef542c056721d0ae6b", checked := Tryd.checked }
namespace Rows
def none {H : Type} : Left H := { results := [], args := [] }

/- WHAT THE LISTED PACKAGE-LEVEL VARIABLES READ AS WHEN THE CALL BEGINS. Each datum BY PROGRAM (the guide's laid-datum.mjs) off the statement by which the dump's own 'gosem.cut.vars' lays the variable. In a bare row this is a premise. The card (YticllcglldbffaaDoorCards.lean) ties it to the program's text. -/
def laid_dactyl_key_named {H : Type} : DataW H := .agg [.agg [.lit (.int .i64 4), .lit (.int .i64 13), .lit (.string [82, 69, 84]), .lit (.string [13])], .agg [.lit (.int .i64 4), .lit (.int .i64 10), .lit (.string [76, 70, 68]), .lit (.string [10])], .agg [.lit (.int .i64 5), .lit (.int .i64 0), .lit (.string [69, 83, 67]), .lit (.string [27])], .agg [.lit (.int .i64 6), .lit (.int .i64 0), .lit (.string [68, 69, 76]), .lit (.string [127])], .agg [.lit (.int .i64 7), .lit (.int .i64 0), .lit (.string [85, 80]), .lit (.string [27, 91, 65])], .agg [.lit (.int .i64 8), .lit (.int .i64 0), .lit (.string [68, 79, 87, 78]), .lit (.string [27, 91, 66])], .agg [.lit (.int .i64 9), .lit (.int .i64 0), .lit (.string [82, 73, 71, 72, 84]), .lit (.string [27, 91, 67])], .agg [.lit (.int .i64 10), .lit (.int .i64 0), .lit (.string [76, 69, 70, 84]), .lit (.string [27, 91, 68])], .agg [.lit (.int .i64 11), .lit (.int .i64 0), .lit (.string [72, 79, 77, 69]), .lit (.string [27, 91, 72])], .agg [.lit (.int .i64 12), .lit (.int .i64 0), .lit (.string [69, 78, 68]), .lit (.string [27, 91, 70])], .agg [.lit (.int .i64 13), .lit (.int .i64 0), .lit (.string [68, 69, 76, 69, 84, 69]), .lit (.string [27, 91, 51, 126])], .agg [.lit (.int .i64 14), .lit (.int .i64 0), .lit (.string [80, 71, 85, 80]), .lit (.string [27, 91, 53, 126])], .agg [.lit (.int .i64 14), .lit (.int .i64 1), .lit (.string [80, 71, 68, 78]), .lit (.string [27, 91, 54, 126])]]
def laid_dactyl_class_ranges {H : Type} : DataW H := .agg [.lit (.int .i32 0), .lit (.int .i32 31), .lit (.int .i32 4), .lit (.int .i32 127), .lit (.int .i32 127), .lit (.int .i32 5), .lit (.int .i32 128), .lit (.int .i32 159), .lit (.int .i32 6), .lit (.int .i32 160), .lit (.int .i32 160), .lit (.int .i32 10), .lit (.int .i32 5760), .lit (.int .i32 5760), .lit (.int .i32 10), .lit (.int .i32 8192), .lit (.int .i32 8202), .lit (.int .i32 10), .lit (.int .i32 8232), .lit (.int .i32 8233), .lit (.int .i32 10), .lit (.int .i32 8239), .lit (.int .i32 8239), .lit (.int .i32 10), .lit (.int .i32 8287), .lit (.int .i32 8287), .lit (.int .i32 10), .lit (.int .i32 12288), .lit (.int .i32 12288), .lit (.int .i32 10), .lit (.int .i32 173), .lit (.int .i32 173), .lit (.int .i32 8), .lit (.int .i32 6155), .lit (.int .i32 6158), .lit (.int .i32 8), .lit (.int .i32 8203), .lit (.int .i32 8205), .lit (.int .i32 8), .lit (.int .i32 8288), .lit (.int .i32 8292), .lit (.int .i32 8), .lit (.int .i32 65279), .lit (.int .i32 65279), .lit (.int .i32 8), .lit (.int .i32 65529), .lit (.int .i32 65531), .lit (.int .i32 8), .lit (.int .i32 1564), .lit (.int .i32 1564), .lit (.int .i32 7), .lit (.int .i32 8206), .lit (.int .i32 8207), .lit (.int .i32 7), .lit (.int .i32 8234), .lit (.int .i32 8238), .lit (.int .i32 7), .lit (.int .i32 8294), .lit (.int .i32 8297), .lit (.int .i32 7), .lit (.int .i32 768), .lit (.int .i32 879), .lit (.int .i32 9), .lit (.int .i32 1155), .lit (.int .i32 1161), .lit (.int .i32 9), .lit (.int .i32 1425), .lit (.int .i32 1469), .lit (.int .i32 9), .lit (.int .i32 1552), .lit (.int .i32 1562), .lit (.int .i32 9), .lit (.int .i32 1611), .lit (.int .i32 1631), .lit (.int .i32 9), .lit (.int .i32 1750), .lit (.int .i32 1756), .lit (.int .i32 9), .lit (.int .i32 6832), .lit (.int .i32 6862), .lit (.int .i32 9), .lit (.int .i32 7616), .lit (.int .i32 7679), .lit (.int .i32 9), .lit (.int .i32 8400), .lit (.int .i32 8432), .lit (.int .i32 9), .lit (.int .i32 12330), .lit (.int .i32 12335), .lit (.int .i32 9), .lit (.int .i32 12441), .lit (.int .i32 12442), .lit (.int .i32 9), .lit (.int .i32 65024), .lit (.int .i32 65039), .lit (.int .i32 9), .lit (.int .i32 65056), .lit (.int .i32 65071), .lit (.int .i32 9), .lit (.int .i32 57344), .lit (.int .i32 63743), .lit (.int .i32 11), .lit (.int .i32 64976), .lit (.int .i32 65007), .lit (.int .i32 11), .lit (.int .i32 65520), .lit (.int .i32 65528), .lit (.int .i32 11), .lit (.int .i32 65534), .lit (.int .i32 65535), .lit (.int .i32 11), .lit (.int .i32 131070), .lit (.int .i32 131071), .lit (.int .i32 11), .lit (.int .i32 262142), .lit (.int .i32 1114111), .lit (.int .i32 11), .lit (.int .i32 4352), .lit (.int .i32 4447), .lit (.int .i32 2), .lit (.int .i32 8986), .lit (.int .i32 8987), .lit (.int .i32 2), .lit (.int .i32 11904), .lit (.int .i32 12287), .lit (.int .i32 2), .lit (.int .i32 12289), .lit (.int .i32 12350), .lit (.int .i32 2), .lit (.int .i32 12353), .lit (.int .i32 13311), .lit (.int .i32 2), .lit (.int .i32 13312), .lit (.int .i32 19903), .lit (.int .i32 2), .lit (.int .i32 19968), .lit (.int .i32 42191), .lit (.int .i32 2), .lit (.int .i32 43360), .lit (.int .i32 43391), .lit (.int .i32 2), .lit (.int .i32 44032), .lit (.int .i32 55203), .lit (.int .i32 2), .lit (.int .i32 63744), .lit (.int .i32 64255), .lit (.int .i32 2), .lit (.int .i32 65072), .lit (.int .i32 65135), .lit (.int .i32 2), .lit (.int .i32 65280), .lit (.int .i32 65376), .lit (.int .i32 2), .lit (.int .i32 65504), .lit (.int .i32 65510), .lit (.int .i32 2), .lit (.int .i32 127744), .lit (.int .i32 128591), .lit (.int .i32 2), .lit (.int .i32 128640), .lit (.int .i32 128767), .lit (.int .i32 2), .lit (.int .i32 129280), .lit (.int .i32 129535), .lit (.int .i32 2), .lit (.int .i32 131072), .lit (.int .i32 262141), .lit (.int .i32 2)]
def laid_dactyl_class_looks {H : Type} : DataW H := .agg [.lit (.int .i32 913), .lit (.int .i32 65), .lit (.int .i32 914), .lit (.int .i32 66), .lit (.int .i32 917), .lit (.int .i32 69), .lit (.int .i32 918), .lit (.int .i32 90), .lit (.int .i32 919), .lit (.int .i32 72), .lit (.int .i32 921), .lit (.int .i32 73), .lit (.int .i32 922), .lit (.int .i32 75), .lit (.int .i32 924), .lit (.int .i32 77), .lit (.int .i32 925), .lit (.int .i32 78), .lit (.int .i32 927), .lit (.int .i32 79), .lit (.int .i32 929), .lit (.int .i32 80), .lit (.int .i32 932), .lit (.int .i32 84), .lit (.int .i32 933), .lit (.int .i32 89), .lit (.int .i32 935), .lit (.int .i32 88), .lit (.int .i32 957), .lit (.int .i32 118), .lit (.int .i32 959), .lit (.int .i32 111), .lit (.int .i32 961), .lit (.int .i32 112), .lit (.int .i32 1029), .lit (.int .i32 83), .lit (.int .i32 1030), .lit (.int .i32 73), .lit (.int .i32 1032), .lit (.int .i32 74), .lit (.int .i32 1040), .lit (.int .i32 65), .lit (.int .i32 1042), .lit (.int .i32 66), .lit (.int .i32 1045), .lit (.int .i32 69), .lit (.int .i32 1050), .lit (.int .i32 75), .lit (.int .i32 1052), .lit (.int .i32 77), .lit (.int .i32 1053), .lit (.int .i32 72), .lit (.int .i32 1054), .lit (.int .i32 79), .lit (.int .i32 1056), .lit (.int .i32 80), .lit (.int .i32 1057), .lit (.int .i32 67), .lit (.int .i32 1058), .lit (.int .i32 84), .lit (.int .i32 1061), .lit (.int .i32 88), .lit (.int .i32 1072), .lit (.int .i32 97), .lit (.int .i32 1077), .lit (.int .i32 101), .lit (.int .i32 1086), .lit (.int .i32 111), .lit (.int .i32 1088), .lit (.int .i32 112), .lit (.int .i32 1089), .lit (.int .i32 99), .lit (.int .i32 1091), .lit (.int .i32 121), .lit (.int .i32 1093), .lit (.int .i32 120), .lit (.int .i32 1109), .lit (.int .i32 115), .lit (.int .i32 1110), .lit (.int .i32 105), .lit (.int .i32 1112), .lit (.int .i32 106), .lit (.int .i32 1281), .lit (.int .i32 100), .lit (.int .i32 1307), .lit (.int .i32 113), .lit (.int .i32 1309), .lit (.int .i32 119), .lit (.int .i32 894), .lit (.int .i32 59), .lit (.int .i32 8208), .lit (.int .i32 45), .lit (.int .i32 8722), .lit (.int .i32 45), .lit (.int .i32 8260), .lit (.int .i32 47), .lit (.int .i32 8725), .lit (.int .i32 47), .lit (.int .i32 8228), .lit (.int .i32 46), .lit (.int .i32 8218), .lit (.int .i32 44)]

/-- 'dactyllaw13.KeyNames': WHATEVER THE INPUT: true; the input reads as it did. -/
def keyNamesSpec : ChangeSpec := { name := "keyNames", fn := fun _ => fun
  | [d] => { results := [.lit (.bool true)], args := [d] }
  | _ => none }
def keyNamesRow : OpenClaim := { program := "yticllcglldbffaadoor", sum := "09f6c87adf342ad6854cfdad14c4520de5526b79788e99ef542c056721d0ae6b", func := "dactyl/dactyllaw13.KeyNames", spec := "keyNames", inPlace := ["internal/abi.NoEscape", "internal/bytealg.MakeNoZero", "internal/bytealg.IndexByteString"], unfollowed := true, recurses := true, named := ["dactyl/key.named"], apart := false, laid := [("dactyl/key.named", laid_dactyl_key_named)] }
def KeyNamesSaid : Prop := keyNamesRow.holds Tryd.pinned (OpenSpec.ofChange keyNamesSpec)

/-- ITS FALSE NEIGHBOUR: 'it returns false'. Refute it at one input. -/
def keyNamesWrong : ChangeSpec := { name := "keyNames", fn := fun _ => fun
  | [d] => { results := [.lit (.bool false)], args := [d] }
  | _ => none }
def KeyNamesWrongFalsely : Prop := keyNamesRow.holds Tryd.pinned (OpenSpec.ofChange keyNamesWrong)

/-- 'dactyllaw13.KeyParses': WHATEVER THE INPUT: true; the input reads as it did. -/
def keyParsesSpec : ChangeSpec := { name := "keyParses", fn := fun _ => fun
  | [d] => { results := [.lit (.bool true)], args := [d] }
  | _ => none }
def keyParsesRow : OpenClaim := { program := "yticllcglldbffaadoor", sum := "09f6c87adf342ad6854cfdad14c4520de5526b79788e99ef542c056721d0ae6b", func := "dactyl/dactyllaw13.KeyParses", spec := "keyParses", inPlace := ["internal/abi.NoEscape", "internal/bytealg.MakeNoZero", "internal/bytealg.IndexByteString"], unfollowed := true, recurses := true, named := ["dactyl/key.named"], apart := false, laid := [("dactyl/key.named", laid_dactyl_key_named)] }
def KeyParsesSaid : Prop := keyParsesRow.holds Tryd.pinned (OpenSpec.ofChange keyParsesSpec)

/-- ITS FALSE NEIGHBOUR: 'it returns false'. Refute it at one input. -/
def keyParsesWrong : ChangeSpec := { name := "keyParses", fn := fun _ => fun
  | [d] => { results := [.lit (.bool false)], args := [d] }
  | _ => none }
def KeyParsesWrongFalsely : Prop := keyParsesRow.holds Tryd.pinned (OpenSpec.ofChange keyParsesWrong)

/-- 'dactyllaw10.EmitTexts': WHATEVER THE INPUT: true; the input reads as it did. -/
def emitTextsSpec : ChangeSpec := { name := "emitTexts", fn := fun _ => fun
  | [d1, d2] => { results := [.lit (.bool true)], args := [d1, d2] }
  | _ => none }
def emitTextsRow : OpenClaim := { program := "yticllcglldbffaadoor", sum := "09f6c87adf342ad6854cfdad14c4520de5526b79788e99ef542c056721d0ae6b", func := "dactyl/dactyllaw10.EmitTexts", spec := "emitTexts", inPlace := ["internal/abi.NoEscape", "internal/bytealg.IndexByteString", "internal/bytealg.IndexString"], unfollowed := true, recurses := true, named := ["dactyl/class.ranges", "dactyl/class.looks", "internal/bytealg.MaxLen"], apart := false, laid := [("dactyl/class.ranges", laid_dactyl_class_ranges), ("dactyl/class.looks", laid_dactyl_class_looks)] }
def EmitTextsSaid : Prop := emitTextsRow.holds Tryd.pinned (OpenSpec.ofChange emitTextsSpec)

/-- ITS FALSE NEIGHBOUR: 'it returns false'. Refute it at one input. -/
def emitTextsWrong : ChangeSpec := { name := "emitTexts", fn := fun _ => fun
  | [d1, d2] => { results := [.lit (.bool false)], args := [d1, d2] }
  | _ => none }
def EmitTextsWrongFalsely : Prop := emitTextsRow.holds Tryd.pinned (OpenSpec.ofChange emitTextsWrong)

/-- 'dactyllaw10.EmitParses': WHATEVER THE INPUT: true; the input reads as it did. -/
def emitParsesSpec : ChangeSpec := { name := "emitParses", fn := fun _ => fun
  | [d] => { results := [.lit (.bool true)], args := [d] }
  | _ => none }
def emitParsesRow : OpenClaim := { program := "yticllcglldbffaadoor", sum := "09f6c87adf342ad6854cfdad14c4520de5526b79788e99ef542c056721d0ae6b", func := "dactyl/dactyllaw10.EmitParses", spec := "emitParses", inPlace := ["internal/abi.NoEscape", "internal/bytealg.IndexByteString", "internal/bytealg.IndexString"], unfollowed := true, recurses := true, named := ["dactyl/class.ranges", "dactyl/class.looks", "internal/bytealg.MaxLen"], apart := false, laid := [("dactyl/class.ranges", laid_dactyl_class_ranges), ("dactyl/class.looks", laid_dactyl_class_looks)] }
def EmitParsesSaid : Prop := emitParsesRow.holds Tryd.pinned (OpenSpec.ofChange emitParsesSpec)

/-- ITS FALSE NEIGHBOUR: 'it returns false'. Refute it at one input. -/
def emitParsesWrong : ChangeSpec := { name := "emitParses", fn := fun _ => fun
  | [d] => { results := [.lit (.bool false)], args := [d] }
  | _ => none }
def EmitParsesWrongFalsely : Prop := emitParsesRow.holds Tryd.pinned (OpenSpec.ofChange emitParsesWrong)

/-- 'dactyllaw10.EmitControls': WHATEVER THE INPUT: true; the input reads as it did. -/
def emitControlsSpec : ChangeSpec := { name := "emitControls", fn := fun _ => fun
  | [d] => { results := [.lit (.bool true)], args := [d] }
  | _ => none }
def emitControlsRow : OpenClaim := { program := "yticllcglldbffaadoor", sum := "09f6c87adf342ad6854cfdad14c4520de5526b79788e99ef542c056721d0ae6b", func := "dactyl/dactyllaw10.EmitControls", spec := "emitControls", inPlace := ["internal/bytealg.IndexByteString", "internal/bytealg.IndexString", "internal/abi.NoEscape"], unfollowed := true, recurses := true, named := ["internal/bytealg.MaxLen", "dactyl/class.ranges", "dactyl/class.looks"], apart := false, laid := [("dactyl/class.ranges", laid_dactyl_class_ranges), ("dactyl/class.looks", laid_dactyl_class_looks)] }
def EmitControlsSaid : Prop := emitControlsRow.holds Tryd.pinned (OpenSpec.ofChange emitControlsSpec)

/-- ITS FALSE NEIGHBOUR: 'it returns false'. Refute it at one input. -/
def emitControlsWrong : ChangeSpec := { name := "emitControls", fn := fun _ => fun
  | [d] => { results := [.lit (.bool false)], args := [d] }
  | _ => none }
def EmitControlsWrongFalsely : Prop := emitControlsRow.holds Tryd.pinned (OpenSpec.ofChange emitControlsWrong)

/-- 'dactyllaw10.EmitCloses': WHATEVER THE INPUT: true; the input reads as it did. -/
def emitClosesSpec : ChangeSpec := { name := "emitCloses", fn := fun _ => fun
  | [d1, d2] => { results := [.lit (.bool true)], args := [d1, d2] }
  | _ => none }
def emitClosesRow : OpenClaim := { program := "yticllcglldbffaadoor", sum := "09f6c87adf342ad6854cfdad14c4520de5526b79788e99ef542c056721d0ae6b", func := "dactyl/dactyllaw10.EmitCloses", spec := "emitCloses", inPlace := ["internal/bytealg.IndexByteString", "internal/bytealg.IndexString", "internal/abi.NoEscape"], unfollowed := true, recurses := true, named := ["internal/bytealg.MaxLen", "dactyl/class.ranges", "dactyl/class.looks"], apart := false, laid := [("dactyl/class.ranges", laid_dactyl_class_ranges), ("dactyl/class.looks", laid_dactyl_class_looks)] }
def EmitClosesSaid : Prop := emitClosesRow.holds Tryd.pinned (OpenSpec.ofChange emitClosesSpec)

/-- ITS FALSE NEIGHBOUR: 'it returns false'. Refute it at one input. -/
def emitClosesWrong : ChangeSpec := { name := "emitCloses", fn := fun _ => fun
  | [d1, d2] => { results := [.lit (.bool false)], args := [d1, d2] }
  | _ => none }
def EmitClosesWrongFalsely : Prop := emitClosesRow.holds Tryd.pinned (OpenSpec.ofChange emitClosesWrong)

/-- 'dactyllaw38.AuditPlace': WHATEVER THE INPUT: true; the input reads as it did. -/
def auditPlaceSpec : ChangeSpec := { name := "auditPlace", fn := fun _ => fun
  | [d] => { results := [.lit (.bool true)], args := [d] }
  | _ => none }
def auditPlaceRow : OpenClaim := { program := "yticllcglldbffaadoor", sum := "09f6c87adf342ad6854cfdad14c4520de5526b79788e99ef542c056721d0ae6b", func := "dactyl/dactyllaw38.AuditPlace", spec := "auditPlace", inPlace := ["internal/bytealg.IndexByteString", "internal/bytealg.IndexString"], unfollowed := true, recurses := true, named := ["dactyl/class.ranges", "dactyl/class.looks", "internal/bytealg.MaxLen"], apart := false, laid := [("dactyl/class.ranges", laid_dactyl_class_ranges), ("dactyl/class.looks", laid_dactyl_class_looks)] }
def AuditPlaceSaid : Prop := auditPlaceRow.holds Tryd.pinned (OpenSpec.ofChange auditPlaceSpec)

/-- ITS FALSE NEIGHBOUR: 'it returns false'. Refute it at one input. -/
def auditPlaceWrong : ChangeSpec := { name := "auditPlace", fn := fun _ => fun
  | [d] => { results := [.lit (.bool false)], args := [d] }
  | _ => none }
def AuditPlaceWrongFalsely : Prop := auditPlaceRow.holds Tryd.pinned (OpenSpec.ofChange auditPlaceWrong)

/- THE SECOND FORM. 'bulk': how many values and letters a reading holds, each counted each time it is reached (what is shared counts as often as it is met; a slice's spare places count too). A statement '..UptoSaid' is the law's where the arguments, and the package variables that the reading takes, are together of bulk at most 1048576: NARROWER than '..Said'. Prove '..Said' where nothing that the law and all that it calls make is longer than what came in: it says more and counts as full. Else prove '..UptoSaid'. A law counts once. -/
mutual
def uptoBulk {H : Type} : DataW H → Nat
  | .lit (.string bytes) => bytes.length + 1
  | .lit _ => 1
  | .nil => 1
  | .ptr d => uptoBulk d + 1
  | .slice elems spare => uptoBulkAll elems + uptoBulkAll spare + 1
  | .agg parts => uptoBulkAll parts + 1
  | .iface _ d => uptoBulk d + 1
  | .map entries => uptoBulkEntries entries + 1
  | .held _ => 1
def uptoBulkAll {H : Type} : List (DataW H) → Nat
  | [] => 0
  | d :: r => uptoBulk d + uptoBulkAll r
def uptoBulkEntries {H : Type} : List (Lit × DataW H) → Nat
  | [] => 0
  | x :: r => uptoBulkEntry x + uptoBulkEntries r
def uptoBulkEntry {H : Type} : Lit × DataW H → Nat
  | (.string bytes, d) => bytes.length + uptoBulk d + 1
  | (_, d) => uptoBulk d + 1
 end
def uptoSmall : (H : Type) → List (DataW H) → Bool := fun _ ds => decide (uptoBulkAll ds ≤ 1048576)
def OpenSpec.upto (s : _root_.Go.ChangeSpec) : _root_.Go.OpenSpec := { _root_.Go.OpenSpec.ofChange s with cond := some uptoSmall }

/-- 'dactyllaw13.KeyNames', WHERE WHAT IT READS IS OF BULK AT MOST 1048576: true; the input reads as it did. -/
def keyNamesUptoRow : OpenClaim := { program := "yticllcglldbffaadoor", sum := "09f6c87adf342ad6854cfdad14c4520de5526b79788e99ef542c056721d0ae6b", func := "dactyl/dactyllaw13.KeyNames", spec := "keyNames", inPlace := ["internal/abi.NoEscape", "internal/bytealg.MakeNoZero", "internal/bytealg.IndexByteString"], unfollowed := true, recurses := true, named := ["dactyl/key.named"], apart := false, laid := [("dactyl/key.named", laid_dactyl_key_named)], narrowed := true }
def KeyNamesUptoSaid : Prop := keyNamesUptoRow.holds Tryd.pinned (OpenSpec.upto keyNamesSpec)

/-- 'dactyllaw13.KeyParses', WHERE WHAT IT READS IS OF BULK AT MOST 1048576: true; the input reads as it did. -/
def keyParsesUptoRow : OpenClaim := { program := "yticllcglldbffaadoor", sum := "09f6c87adf342ad6854cfdad14c4520de5526b79788e99ef542c056721d0ae6b", func := "dactyl/dactyllaw13.KeyParses", spec := "keyParses", inPlace := ["internal/abi.NoEscape", "internal/bytealg.MakeNoZero", "internal/bytealg.IndexByteString"], unfollowed := true, recurses := true, named := ["dactyl/key.named"], apart := false, laid := [("dactyl/key.named", laid_dactyl_key_named)], narrowed := true }
def KeyParsesUptoSaid : Prop := keyParsesUptoRow.holds Tryd.pinned (OpenSpec.upto keyParsesSpec)

/-- 'dactyllaw10.EmitTexts', WHERE WHAT IT READS IS OF BULK AT MOST 1048576: true; the input reads as it did. -/
def emitTextsUptoRow : OpenClaim := { program := "yticllcglldbffaadoor", sum := "09f6c87adf342ad6854cfdad14c4520de5526b79788e99ef542c056721d0ae6b", func := "dactyl/dactyllaw10.EmitTexts", spec := "emitTexts", inPlace := ["internal/abi.NoEscape", "internal/bytealg.IndexByteString", "internal/bytealg.IndexString"], unfollowed := true, recurses := true, named := ["dactyl/class.ranges", "dactyl/class.looks", "internal/bytealg.MaxLen"], apart := false, laid := [("dactyl/class.ranges", laid_dactyl_class_ranges), ("dactyl/class.looks", laid_dactyl_class_looks)], narrowed := true }
def EmitTextsUptoSaid : Prop := emitTextsUptoRow.holds Tryd.pinned (OpenSpec.upto emitTextsSpec)

/-- 'dactyllaw10.EmitParses', WHERE WHAT IT READS IS OF BULK AT MOST 1048576: true; the input reads as it did. -/
def emitParsesUptoRow : OpenClaim := { program := "yticllcglldbffaadoor", sum := "09f6c87adf342ad6854cfdad14c4520de5526b79788e99ef542c056721d0ae6b", func := "dactyl/dactyllaw10.EmitParses", spec := "emitParses", inPlace := ["internal/abi.NoEscape", "internal/bytealg.IndexByteString", "internal/bytealg.IndexString"], unfollowed := true, recurses := true, named := ["dactyl/class.ranges", "dactyl/class.looks", "internal/bytealg.MaxLen"], apart := false, laid := [("dactyl/class.ranges", laid_dactyl_class_ranges), ("dactyl/class.looks", laid_dactyl_class_looks)], narrowed := true }
def EmitParsesUptoSaid : Prop := emitParsesUptoRow.holds Tryd.pinned (OpenSpec.upto emitParsesSpec)

/-- 'dactyllaw10.EmitControls', WHERE WHAT IT READS IS OF BULK AT MOST 1048576: true; the input reads as it did. -/
def emitControlsUptoRow : OpenClaim := { program := "yticllcglldbffaadoor", sum := "09f6c87adf342ad6854cfdad14c4520de5526b79788e99ef542c056721d0ae6b", func := "dactyl/dactyllaw10.EmitControls", spec := "emitControls", inPlace := ["internal/bytealg.IndexByteString", "internal/bytealg.IndexString", "internal/abi.NoEscape"], unfollowed := true, recurses := true, named := ["internal/bytealg.MaxLen", "dactyl/class.ranges", "dactyl/class.looks"], apart := false, laid := [("dactyl/class.ranges", laid_dactyl_class_ranges), ("dactyl/class.looks", laid_dactyl_class_looks)], narrowed := true }
def EmitControlsUptoSaid : Prop := emitControlsUptoRow.holds Tryd.pinned (OpenSpec.upto emitControlsSpec)

/-- 'dactyllaw10.EmitCloses', WHERE WHAT IT READS IS OF BULK AT MOST 1048576: true; the input reads as it did. -/
def emitClosesUptoRow : OpenClaim := { program := "yticllcglldbffaadoor", sum := "09f6c87adf342ad6854cfdad14c4520de5526b79788e99ef542c056721d0ae6b", func := "dactyl/dactyllaw10.EmitCloses", spec := "emitCloses", inPlace := ["internal/bytealg.IndexByteString", "internal/bytealg.IndexString", "internal/abi.NoEscape"], unfollowed := true, recurses := true, named := ["internal/bytealg.MaxLen", "dactyl/class.ranges", "dactyl/class.looks"], apart := false, laid := [("dactyl/class.ranges", laid_dactyl_class_ranges), ("dactyl/class.looks", laid_dactyl_class_looks)], narrowed := true }
def EmitClosesUptoSaid : Prop := emitClosesUptoRow.holds Tryd.pinned (OpenSpec.upto emitClosesSpec)

/-- 'dactyllaw38.AuditPlace', WHERE WHAT IT READS IS OF BULK AT MOST 1048576: true; the input reads as it did. -/
def auditPlaceUptoRow : OpenClaim := { program := "yticllcglldbffaadoor", sum := "09f6c87adf342ad6854cfdad14c4520de5526b79788e99ef542c056721d0ae6b", func := "dactyl/dactyllaw38.AuditPlace", spec := "auditPlace", inPlace := ["internal/bytealg.IndexByteString", "internal/bytealg.IndexString"], unfollowed := true, recurses := true, named := ["dactyl/class.ranges", "dactyl/class.looks", "internal/bytealg.MaxLen"], apart := false, laid := [("dactyl/class.ranges", laid_dactyl_class_ranges), ("dactyl/class.looks", laid_dactyl_class_looks)], narrowed := true }
def AuditPlaceUptoSaid : Prop := auditPlaceUptoRow.holds Tryd.pinned (OpenSpec.upto auditPlaceSpec)

end Rows
end Go.Proofs.YticllcglldbffaaDoor
