import Derived.Test.YticllcglldbffaaDoorG2
import Derived.Test.YticllcglldbffaaDoorN3
namespace Go.Proofs.YticllcglldbffaaDoor.Ab
open Go.Proofs
set_option linter.unusedVariables false
set_option linter.unusedSimpArgs false
set_option linter.unusedSectionVars false
def HM (v : Int) : Prop := 0 ≤ v ∧ v ≤ 1114111 ∧ (v < 55296 ∨ 57343 < v)
theorem alY (v : Int) : bv v ≠ [] := by unfold bv; (repeat' split) <;> simp
theorem aaV {v : Int} (h : HM v) (r : List UInt8) : a8 (bv v ++ r) = v :: a8 r := by
  rw [br (by simp [alY]), jb h.1 h.2.1 h.2.2]
  simp
section
variable {h : Int → Int} (h1 : ∀ v, HM v → HM (h v)) (h2 : ∀ v, 1114112 ≤ v → h v = v)
include h1 h2
end
theorem aj8 : ((List.range 95).all fun n => decide (aB ((n : Int) + 32) ≤ 3)) = true := by kernel_rfl
theorem Td {v : Int} (h1 : 32 ≤ v) (h2 : v ≤ 126) : EN v = false := by
  have := of_decide_eq_true (List.all_eq_true.1 aj8 (v - 32).toNat (List.mem_range.2 (by omega)))
  rw [show (((v - 32).toNat : Nat) : Int) + 32 = v by omega] at this
  simp only [EN, decide_eq_false_iff_not]
  omega
theorem Ss {c : UInt8} (h : c.toNat < 128) : bv (c.toNat : Int) = [c] := by
  unfold bv
  rw [if_pos (by omega)]
  congr 1
  exact UInt8.ofNat_toNat
end Go.Proofs.YticllcglldbffaaDoor.Ab
