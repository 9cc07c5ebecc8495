/- What the listed variables hold, as the evaluator lays it (seat of LineSwaps). -/
import Derived.Test.YtkmjgpoenljnaaaDoorRows
import Derived.Test.YtkmjgpoenljnaaaDoorC4
import Derived.Test.YtkmjgpoenljnaaaDoorW
import Derived.LaidMore
import Derived.Stop.Joined
import Derived.Test.YtkmjgpoenljnaaaDoorL9
import Derived.Test.YtkmjgpoenljnaaaDoorD3
namespace Go.Proofs.YtkmjgpoenljnaaaDoor.Ab
open Go.Proofs Go.ChangeShapes Go.WideShapes Go.ChangeAt Go.RowKit Go.Deep
set_option maxRecDepth 100000
def laidRows : List (String × DataW Unit) := [("dactyl/class.ranges", Rows.laid_dactyl_class_ranges), ("dactyl/class.looks", Rows.laid_dactyl_class_looks)]
def lay0 : List Value := ((laid.find? (·.1 == 0)).map (·.2)).getD []
def lay1 : List Value := ((laid.find? (·.1 == 1)).map (·.2)).getD []
theorem lay_eq : laid = [(1, lay1), (0, lay0)] := by kernel_rfl
theorem gRanges : Tryd.prog.globalNamed "dactyl/class.ranges" = some 0 := by kernel_rfl
theorem gLooks : Tryd.prog.globalNamed "dactyl/class.looks" = some 1 := by kernel_rfl
theorem tRanges : (Tryd.prog.globals[0]?).map (·.type) = some 165 := by kernel_rfl
theorem tLooks : (Tryd.prog.globals[1]?).map (·.type) = some 166 := by kernel_rfl
theorem uRanges : Tryd.prog.underlying 165 = some (.array 168 21) := by kernel_rfl
theorem uLooks : Tryd.prog.underlying 166 = some (.array 102 21) := by kernel_rfl
theorem u21 : Tryd.prog.underlying 21 = some (.int .i32) := by kernel_rfl
theorem c21 : Tryd.prog.cellsOf 21 = 1 := by kernel_rfl
theorem of_laid {W : World} (h : laidMetH Tryd.prog laidRows W) : LaidIn laid W ∧ 0 < W.heap.size := by
  rw [MakeChecks.laidMetH_plain _ _ _ (by kernel_rfl)] at h
  obtain ⟨ps, ⟨g0, t0, cs0, f0, p0, q0, hg0, ht0, hv0, hd0, ⟨g1, t1, cs1, f1, p1, q1, hg1, ht1, hv1, hd1, _, _⟩, _⟩, _, _⟩ := h
  obtain rfl := Option.some.inj (gRanges.symm.trans hg0)
  obtain rfl := Option.some.inj (gLooks.symm.trans hg1)
  obtain rfl := Option.some.inj (tRanges.symm.trans ht0)
  obtain rfl := Option.some.inj (tLooks.symm.trans ht1)
  have r0 := cells_of_array (l := lay0) gRanges hv0 uRanges u21 c21 hd0 (by kernel_rfl)
  have r1 := cells_of_array (l := lay1) gLooks hv1 uLooks u21 c21 hd1 (by kernel_rfl)
  refine ⟨?_, r0.1 (by decide)⟩
  rw [lay_eq]
  exact laidIn_cons (r1.1 (by decide)) r1.2 (laidIn_cons (r0.1 (by decide)) r0.2 laidIn_nil)
theorem door_met (os : Os) (args : Array Value) : laidMetH Tryd.prog laidRows ((World.doorLaid Tryd.prog 3000 os).forCall (fun _ _ => 0) ⟨#[], args, []⟩).memory :=
  laidMetH_of_parts3 (fuel := 8) (laidMet_of_run' 8 (by kernel_rfl) (by kernel_rfl)) (by kernel_rfl) (by kernel_rfl)
theorem own : ownKnob Tryd.prog.godebug = none := by kernel_rfl
theorem laidOut : laidOutB Tryd.prog = true := by kernel_rfl
end Go.Proofs.YtkmjgpoenljnaaaDoor.Ab
/- class.Of is known; what awake() answers. -/
namespace Go.Proofs.YtkmjgpoenljnaaaDoor.Ab
open Go.Proofs
set_option maxRecDepth 100000
def kOf (f : Nat) (args : List Value) : Option Value := if f = 110 then match args with | [.int .i64 v] => some (.int .i64 (classOf v)) | _ => none else none
@[reducible] def signD : TD := .more (.int .i64) (.one (.int .i64))
@[reducible] def twoD : TD := .more (.int .i64) (.more (.int .i64) (.one (.int .i64)))
@[reducible] def lineD : TD := .more (.slice signD) (.one (.int .i64))
theorem laidO : laidOnce laid = true := by kernel_rfl
theorem open_none (f : Nat) : Open (fun _ _ => none) f := fun _ _ => rfl
theorem open_knL (l : List Nat) (f : Nat) : Open (knL l) f := fun v r => by simp [knL]
theorem laidPl {k : Nat → List Value → Option Value} : (XK k).laid.all (fun p => p.2.all plainV) = true := by
  rw [List.all_eq_true]
  intro p hp
  rw [List.all_eq_true]
  exact laidWell_plain laidW p hp
theorem knows_class : Knows Tryd.prog laid kOf := by
  intro f args v hk hp
  unfold kOf at hk
  split at hk
  · rename_i hf
    subst hf
    split at hk
    · rename_i x
      cases hk
      have hl : LaidS (XK fun _ _ => none) (startS gsize (XK fun _ _ => none)) := LaidS.start laidW laidO
      refine known_of_WC (soundK (k := fun _ _ => none) (fun _ _ _ h => by cases h)) (G := gsize) laidW hp rfl ?_
      refine WC_mono (classOf_ok open_none x emptyVS (roWd (startS gsize (XK fun _ _ => none))) _ _ (roWd_rel hl laidPl) (.cons _ _ _ _ (.c _ rfl) .nil)) ?_
      rintro r s' ⟨v, vs', d', ⟨rfl, _⟩, hv, _, _⟩
      cases hv
      rfl
    · cases hk
  · cases hk
theorem aw17 : awk gsize (XK kOf) 15 = true := by kernel_rfl
def awl : List Nat := [15]
theorem knows_aw : Knows Tryd.prog laid (knL awl) := knows_more (X0 := X0) (soundK knows_class) laidW fun f hf => by
  simp only [awl, List.mem_cons, List.not_mem_nil, or_false] at hf
  subst hf
  exact aw17
theorem sound : SoundF (XK (knL awl)) Tryd.prog := soundK knows_aw
end Go.Proofs.YtkmjgpoenljnaaaDoor.Ab
