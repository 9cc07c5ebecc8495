/- What awake() answers: the laws of 43 and 44. -/
import Derived.Test.YtpckldhojfjdmaaDoorKB
namespace Go.Proofs.YtpckldhojfjdmaaDoor.Ab
open Go.Proofs
set_option maxRecDepth 100000
theorem aw43 : awk gsize (XK kOf) 14 = true := by kernel_rfl
theorem aw44 : awk gsize (XK kOf) 30 = true := by kernel_rfl
def awl2 : List Nat := [14, 30]
theorem knows_aw2 : Knows Tryd.prog laid (knL awl2) := knows_more (X0 := X0) (soundK knows_class) laidW fun f hf => by
  simp only [awl2, List.mem_cons, List.not_mem_nil, or_false] at hf
  rcases hf with rfl | rfl
  · exact aw43
  · exact aw44
theorem sound2 : SoundF (XK (knRl awl2)) Tryd.prog := soundK (knows_knRl knows_aw2)
theorem sound3 : SoundF (XK (knL awl2)) Tryd.prog := soundK knows_aw2
end Go.Proofs.YtpckldhojfjdmaaDoor.Ab
