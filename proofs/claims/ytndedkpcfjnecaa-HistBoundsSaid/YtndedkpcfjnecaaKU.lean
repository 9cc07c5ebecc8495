/- What awake() answers, for the laws of trails and histories. -/
import Derived.Test.YtndedkpcfjnecaaKN
namespace Go.Proofs.Ytndedkpcfjnecaa.Ab
open Go.Proofs
set_option maxRecDepth 100000
set_option linter.unusedVariables false
@[reducible] def callUD : TD := .more (.int .i64) (.more lineD (.one .bool))
theorem aw19 : awk gsize (XK fun _ _ => none) 36 = true := by kernel_rfl
theorem aw23 : awk gsize (XK fun _ _ => none) 44 = true := by kernel_rfl
def awu : List Nat := [36, 44]
theorem knows_awu : Knows Try.prog laid (knL awu) := knows_more (X0 := X0) (soundK (k := fun _ _ => none) (fun _ _ _ h => by cases h)) laidW fun f hf => by
  simp only [awu, List.mem_cons, List.not_mem_nil, or_false] at hf
  rcases hf with rfl | rfl
  · exact aw19
  · exact aw23
theorem soundU : SoundF (XK (knRl awu)) Try.prog := soundK (knows_knRl knows_awu)
theorem rng8 {n : Int} (h : (Lit.int .u8 n).wf = true) : 0 ≤ n ∧ n < 256 := by
  simp only [Lit.wf, Bool.and_eq_true, decide_eq_true_eq] at h
  have e1 : IntKind.u8.min = 0 := by decide
  have e2 : IntKind.u8.max = 255 := by decide
  omega
end Go.Proofs.Ytndedkpcfjnecaa.Ab
