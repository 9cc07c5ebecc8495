/-
  No cell of these rows narrows 'for every input' (looked for: loops, veiled, ifaces, maps, wideKeys, modest, calm, conditions, laid).
  DERIVED. THE GIVEN ROWS OF THIS SEAT. 8 by the template 'for every input the law returns true; each argument reads behind the call as it read before'; 0 by the template 'total and deterministic' (their statements: YtndedkpcfjnecaaTotals.lean).
  GIVEN WITH THE SEED: the statements are not yours to turn. If you find one false, say at which input.
  Laid BY PROGRAM, IN A SANDBOX (cutbox-rows.mjs): the forced cells as the released guide's own fill.sh prints them over the translation 0d018dcb0896ba3b… (all of the seat's roots in one cut). By AI agents, Wed Nov 11 2026. No macro, syntax, notation, axiom, sorry.
-/
import Derived.Test.YtndedkpcfjnecaaChecked
import GoSem.Claim
import GoSem.ClaimJoined
import GoSem.ClaimMapViews
import Derived.JoinedTies
import Derived.KernelRfl
namespace Go.Proofs.Ytndedkpcfjnecaa
/- THE CELL 'sum', in the pinned program and in every row, IS THE sha256 OF THE DUMP (.gsa) THAT YtndedkpcfjnecaaProg.lean LOADS. Nothing in Lean hashes anything: it is a label: what it is worth is what the hold of that sum in a sandbox is worth. -/
noncomputable def Try.pinned : Pinned := { name := "ytndedkpcfjnecaa", sum := "0d018dcb0896ba3bc7b74a9243830bf733d2601cb792bdab1ac84b836a81fdb7", checked := Try.checked }
namespace Rows
def none {H : Type} : Left H := { results := [], args := [] }

/-- 'dactyllaw04.SignRuns': WHATEVER THE INPUT: true; the input reads as it did. -/
def signRunsSpec : ChangeSpec := { name := "signRuns", fn := fun _ => fun
  | [d] => { results := [.lit (.bool true)], args := [d] }
  | _ => none }
def signRunsRow : OpenClaim := { program := "ytndedkpcfjnecaa", sum := "0d018dcb0896ba3bc7b74a9243830bf733d2601cb792bdab1ac84b836a81fdb7", func := "dactyl/dactyllaw04.SignRuns", spec := "signRuns", unfollowed := true, recurses := true, apart := false }
def SignRunsSaid : Prop := signRunsRow.holds Try.pinned (OpenSpec.ofChange signRunsSpec)

/-- ITS FALSE NEIGHBOUR: 'it returns false'. Refute it at one input. -/
def signRunsWrong : ChangeSpec := { name := "signRuns", fn := fun _ => fun
  | [d] => { results := [.lit (.bool false)], args := [d] }
  | _ => none }
def SignRunsWrongFalsely : Prop := signRunsRow.holds Try.pinned (OpenSpec.ofChange signRunsWrong)

/-- 'dactyllaw18.KillDoes': WHATEVER THE INPUT: true; the input reads as it did. -/
def killDoesSpec : ChangeSpec := { name := "killDoes", fn := fun _ => fun
  | [d1, d2] => { results := [.lit (.bool true)], args := [d1, d2] }
  | _ => none }
def killDoesRow : OpenClaim := { program := "ytndedkpcfjnecaa", sum := "0d018dcb0896ba3bc7b74a9243830bf733d2601cb792bdab1ac84b836a81fdb7", func := "dactyl/dactyllaw18.KillDoes", spec := "killDoes", unfollowed := true, recurses := true, apart := false }
def KillDoesSaid : Prop := killDoesRow.holds Try.pinned (OpenSpec.ofChange killDoesSpec)

/-- ITS FALSE NEIGHBOUR: 'it returns false'. Refute it at one input. -/
def killDoesWrong : ChangeSpec := { name := "killDoes", fn := fun _ => fun
  | [d1, d2] => { results := [.lit (.bool false)], args := [d1, d2] }
  | _ => none }
def KillDoesWrongFalsely : Prop := killDoesRow.holds Try.pinned (OpenSpec.ofChange killDoesWrong)

/-- 'dactyllaw18.KillBounds': WHATEVER THE INPUT: true; the input reads as it did. -/
def killBoundsSpec : ChangeSpec := { name := "killBounds", fn := fun _ => fun
  | [d1, d2, d3] => { results := [.lit (.bool true)], args := [d1, d2, d3] }
  | _ => none }
def killBoundsRow : OpenClaim := { program := "ytndedkpcfjnecaa", sum := "0d018dcb0896ba3bc7b74a9243830bf733d2601cb792bdab1ac84b836a81fdb7", func := "dactyl/dactyllaw18.KillBounds", spec := "killBounds", unfollowed := true, recurses := true, apart := false }
def KillBoundsSaid : Prop := killBoundsRow.holds Try.pinned (OpenSpec.ofChange killBoundsSpec)

/-- ITS FALSE NEIGHBOUR: 'it returns false'. Refute it at one input. -/
def killBoundsWrong : ChangeSpec := { name := "killBounds", fn := fun _ => fun
  | [d1, d2, d3] => { results := [.lit (.bool false)], args := [d1, d2, d3] }
  | _ => none }
def KillBoundsWrongFalsely : Prop := killBoundsRow.holds Try.pinned (OpenSpec.ofChange killBoundsWrong)

/-- 'dactyllaw01.NumDecs': WHATEVER THE INPUT: true; the input reads as it did. -/
def numDecsSpec : ChangeSpec := { name := "numDecs", fn := fun _ => fun
  | [d1, d2] => { results := [.lit (.bool true)], args := [d1, d2] }
  | _ => none }
def numDecsRow : OpenClaim := { program := "ytndedkpcfjnecaa", sum := "0d018dcb0896ba3bc7b74a9243830bf733d2601cb792bdab1ac84b836a81fdb7", func := "dactyl/dactyllaw01.NumDecs", spec := "numDecs", inPlace := ["internal/bytealg.IndexByteString", "internal/abi.NoEscape", "internal/bytealg.MakeNoZero"], unfollowed := true, recurses := true, apart := false }
def NumDecsSaid : Prop := numDecsRow.holds Try.pinned (OpenSpec.ofChange numDecsSpec)

/-- ITS FALSE NEIGHBOUR: 'it returns false'. Refute it at one input. -/
def numDecsWrong : ChangeSpec := { name := "numDecs", fn := fun _ => fun
  | [d1, d2] => { results := [.lit (.bool false)], args := [d1, d2] }
  | _ => none }
def NumDecsWrongFalsely : Prop := numDecsRow.holds Try.pinned (OpenSpec.ofChange numDecsWrong)

/-- 'dactyllaw01.NumHexes': WHATEVER THE INPUT: true; the input reads as it did. -/
def numHexesSpec : ChangeSpec := { name := "numHexes", fn := fun _ => fun
  | [d1, d2, d3] => { results := [.lit (.bool true)], args := [d1, d2, d3] }
  | _ => none }
def numHexesRow : OpenClaim := { program := "ytndedkpcfjnecaa", sum := "0d018dcb0896ba3bc7b74a9243830bf733d2601cb792bdab1ac84b836a81fdb7", func := "dactyl/dactyllaw01.NumHexes", spec := "numHexes", inPlace := ["internal/bytealg.IndexByteString", "internal/abi.NoEscape", "internal/bytealg.MakeNoZero"], unfollowed := true, recurses := true, apart := false }
def NumHexesSaid : Prop := numHexesRow.holds Try.pinned (OpenSpec.ofChange numHexesSpec)

/-- ITS FALSE NEIGHBOUR: 'it returns false'. Refute it at one input. -/
def numHexesWrong : ChangeSpec := { name := "numHexes", fn := fun _ => fun
  | [d1, d2, d3] => { results := [.lit (.bool false)], args := [d1, d2, d3] }
  | _ => none }
def NumHexesWrongFalsely : Prop := numHexesRow.holds Try.pinned (OpenSpec.ofChange numHexesWrong)

/-- 'dactyllaw19.UndoDoes': WHATEVER THE INPUT: true; the input reads as it did. -/
def undoDoesSpec : ChangeSpec := { name := "undoDoes", fn := fun _ => fun
  | [d1, d2] => { results := [.lit (.bool true)], args := [d1, d2] }
  | _ => none }
def undoDoesRow : OpenClaim := { program := "ytndedkpcfjnecaa", sum := "0d018dcb0896ba3bc7b74a9243830bf733d2601cb792bdab1ac84b836a81fdb7", func := "dactyl/dactyllaw19.UndoDoes", spec := "undoDoes", unfollowed := true, recurses := true, apart := false }
def UndoDoesSaid : Prop := undoDoesRow.holds Try.pinned (OpenSpec.ofChange undoDoesSpec)

/-- ITS FALSE NEIGHBOUR: 'it returns false'. Refute it at one input. -/
def undoDoesWrong : ChangeSpec := { name := "undoDoes", fn := fun _ => fun
  | [d1, d2] => { results := [.lit (.bool false)], args := [d1, d2] }
  | _ => none }
def UndoDoesWrongFalsely : Prop := undoDoesRow.holds Try.pinned (OpenSpec.ofChange undoDoesWrong)

/-- 'dactyllaw19.UndoBounds': WHATEVER THE INPUT: true; the input reads as it did. -/
def undoBoundsSpec : ChangeSpec := { name := "undoBounds", fn := fun _ => fun
  | [d1, d2] => { results := [.lit (.bool true)], args := [d1, d2] }
  | _ => none }
def undoBoundsRow : OpenClaim := { program := "ytndedkpcfjnecaa", sum := "0d018dcb0896ba3bc7b74a9243830bf733d2601cb792bdab1ac84b836a81fdb7", func := "dactyl/dactyllaw19.UndoBounds", spec := "undoBounds", unfollowed := true, recurses := true, apart := false }
def UndoBoundsSaid : Prop := undoBoundsRow.holds Try.pinned (OpenSpec.ofChange undoBoundsSpec)

/-- ITS FALSE NEIGHBOUR: 'it returns false'. Refute it at one input. -/
def undoBoundsWrong : ChangeSpec := { name := "undoBounds", fn := fun _ => fun
  | [d1, d2] => { results := [.lit (.bool false)], args := [d1, d2] }
  | _ => none }
def UndoBoundsWrongFalsely : Prop := undoBoundsRow.holds Try.pinned (OpenSpec.ofChange undoBoundsWrong)

/-- 'dactyllaw23.HistBounds': WHATEVER THE INPUT: true; the input reads as it did. -/
def histBoundsSpec : ChangeSpec := { name := "histBounds", fn := fun _ => fun
  | [d1, d2, d3] => { results := [.lit (.bool true)], args := [d1, d2, d3] }
  | _ => none }
def histBoundsRow : OpenClaim := { program := "ytndedkpcfjnecaa", sum := "0d018dcb0896ba3bc7b74a9243830bf733d2601cb792bdab1ac84b836a81fdb7", func := "dactyl/dactyllaw23.HistBounds", spec := "histBounds", unfollowed := true, recurses := true, apart := false }
def HistBoundsSaid : Prop := histBoundsRow.holds Try.pinned (OpenSpec.ofChange histBoundsSpec)

/-- ITS FALSE NEIGHBOUR: 'it returns false'. Refute it at one input. -/
def histBoundsWrong : ChangeSpec := { name := "histBounds", fn := fun _ => fun
  | [d1, d2, d3] => { results := [.lit (.bool false)], args := [d1, d2, d3] }
  | _ => none }
def HistBoundsWrongFalsely : Prop := histBoundsRow.holds Try.pinned (OpenSpec.ofChange histBoundsWrong)

/- THE SECOND FORM. 'bulk': how many values and letters a reading holds, each counted each time it is reached (what is shared counts as often as it is met; a slice's spare places count too). A statement '..UptoSaid' is the law's where the arguments, and the package variables that the reading takes, are together of bulk at most 1048576: NARROWER than '..Said'. Prove '..Said' where nothing that the law and all that it calls make is longer than what came in: it says more and counts as full. Else prove '..UptoSaid'. A law counts once. -/
mutual
def uptoBulk {H : Type} : DataW H → Nat
  | .lit (.string bytes) => bytes.length + 1
  | .lit _ => 1
  | .nil => 1
  | .ptr d => uptoBulk d + 1
  | .slice elems spare => uptoBulkAll elems + uptoBulkAll spare + 1
  | .agg parts => uptoBulkAll parts + 1
  | .iface _ d => uptoBulk d + 1
  | .map entries => uptoBulkEntries entries + 1
  | .held _ => 1
def uptoBulkAll {H : Type} : List (DataW H) → Nat
  | [] => 0
  | d :: r => uptoBulk d + uptoBulkAll r
def uptoBulkEntries {H : Type} : List (Lit × DataW H) → Nat
  | [] => 0
  | x :: r => uptoBulkEntry x + uptoBulkEntries r
def uptoBulkEntry {H : Type} : Lit × DataW H → Nat
  | (.string bytes, d) => bytes.length + uptoBulk d + 1
  | (_, d) => uptoBulk d + 1
 end
def uptoSmall : (H : Type) → List (DataW H) → Bool := fun _ ds => decide (uptoBulkAll ds ≤ 1048576)
def OpenSpec.upto (s : _root_.Go.ChangeSpec) : _root_.Go.OpenSpec := { _root_.Go.OpenSpec.ofChange s with cond := some uptoSmall }

/-- 'dactyllaw04.SignRuns', WHERE WHAT IT READS IS OF BULK AT MOST 1048576: true; the input reads as it did. -/
def signRunsUptoRow : OpenClaim := { program := "ytndedkpcfjnecaa", sum := "0d018dcb0896ba3bc7b74a9243830bf733d2601cb792bdab1ac84b836a81fdb7", func := "dactyl/dactyllaw04.SignRuns", spec := "signRuns", unfollowed := true, recurses := true, apart := false, narrowed := true }
def SignRunsUptoSaid : Prop := signRunsUptoRow.holds Try.pinned (OpenSpec.upto signRunsSpec)

/-- 'dactyllaw18.KillDoes', WHERE WHAT IT READS IS OF BULK AT MOST 1048576: true; the input reads as it did. -/
def killDoesUptoRow : OpenClaim := { program := "ytndedkpcfjnecaa", sum := "0d018dcb0896ba3bc7b74a9243830bf733d2601cb792bdab1ac84b836a81fdb7", func := "dactyl/dactyllaw18.KillDoes", spec := "killDoes", unfollowed := true, recurses := true, apart := false, narrowed := true }
def KillDoesUptoSaid : Prop := killDoesUptoRow.holds Try.pinned (OpenSpec.upto killDoesSpec)

/-- 'dactyllaw18.KillBounds', WHERE WHAT IT READS IS OF BULK AT MOST 1048576: true; the input reads as it did. -/
def killBoundsUptoRow : OpenClaim := { program := "ytndedkpcfjnecaa", sum := "0d018dcb0896ba3bc7b74a9243830bf733d2601cb792bdab1ac84b836a81fdb7", func := "dactyl/dactyllaw18.KillBounds", spec := "killBounds", unfollowed := true, recurses := true, apart := false, narrowed := true }
def KillBoundsUptoSaid : Prop := killBoundsUptoRow.holds Try.pinned (OpenSpec.upto killBoundsSpec)

/-- 'dactyllaw01.NumDecs', WHERE WHAT IT READS IS OF BULK AT MOST 1048576: true; the input reads as it did. -/
def numDecsUptoRow : OpenClaim := { program := "ytndedkpcfjnecaa", sum := "0d018dcb0896ba3bc7b74a9243830bf733d2601cb792bdab1ac84b836a81fdb7", func := "dactyl/dactyllaw01.NumDecs", spec := "numDecs", inPlace := ["internal/bytealg.IndexByteString", "internal/abi.NoEscape", "internal/bytealg.MakeNoZero"], unfollowed := true, recurses := true, apart := false, narrowed := true }
def NumDecsUptoSaid : Prop := numDecsUptoRow.holds Try.pinned (OpenSpec.upto numDecsSpec)

/-- 'dactyllaw01.NumHexes', WHERE WHAT IT READS IS OF BULK AT MOST 1048576: true; the input reads as it did. -/
def numHexesUptoRow : OpenClaim := { program := "ytndedkpcfjnecaa", sum := "0d018dcb0896ba3bc7b74a9243830bf733d2601cb792bdab1ac84b836a81fdb7", func := "dactyl/dactyllaw01.NumHexes", spec := "numHexes", inPlace := ["internal/bytealg.IndexByteString", "internal/abi.NoEscape", "internal/bytealg.MakeNoZero"], unfollowed := true, recurses := true, apart := false, narrowed := true }
def NumHexesUptoSaid : Prop := numHexesUptoRow.holds Try.pinned (OpenSpec.upto numHexesSpec)

/-- 'dactyllaw19.UndoDoes', WHERE WHAT IT READS IS OF BULK AT MOST 1048576: true; the input reads as it did. -/
def undoDoesUptoRow : OpenClaim := { program := "ytndedkpcfjnecaa", sum := "0d018dcb0896ba3bc7b74a9243830bf733d2601cb792bdab1ac84b836a81fdb7", func := "dactyl/dactyllaw19.UndoDoes", spec := "undoDoes", unfollowed := true, recurses := true, apart := false, narrowed := true }
def UndoDoesUptoSaid : Prop := undoDoesUptoRow.holds Try.pinned (OpenSpec.upto undoDoesSpec)

/-- 'dactyllaw19.UndoBounds', WHERE WHAT IT READS IS OF BULK AT MOST 1048576: true; the input reads as it did. -/
def undoBoundsUptoRow : OpenClaim := { program := "ytndedkpcfjnecaa", sum := "0d018dcb0896ba3bc7b74a9243830bf733d2601cb792bdab1ac84b836a81fdb7", func := "dactyl/dactyllaw19.UndoBounds", spec := "undoBounds", unfollowed := true, recurses := true, apart := false, narrowed := true }
def UndoBoundsUptoSaid : Prop := undoBoundsUptoRow.holds Try.pinned (OpenSpec.upto undoBoundsSpec)

/-- 'dactyllaw23.HistBounds', WHERE WHAT IT READS IS OF BULK AT MOST 1048576: true; the input reads as it did. -/
def histBoundsUptoRow : OpenClaim := { program := "ytndedkpcfjnecaa", sum := "0d018dcb0896ba3bc7b74a9243830bf733d2601cb792bdab1ac84b836a81fdb7", func := "dactyl/dactyllaw23.HistBounds", spec := "histBounds", unfollowed := true, recurses := true, apart := false, narrowed := true }
def HistBoundsUptoSaid : Prop := histBoundsUptoRow.holds Try.pinned (OpenSpec.upto histBoundsSpec)

end Rows
end Go.Proofs.Ytndedkpcfjnecaa
