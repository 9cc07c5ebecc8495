/- The places of this seat's code, by names. Written by mkcv.py. -/
import Derived.Test.YticllcglldbffaaW
namespace Go.Proofs.Yticllcglldbffaa.Ab
open Go.Proofs
set_option maxRecDepth 100000
set_option linter.unusedVariables false
set_option linter.defProp false
noncomputable section
variable {k : Nat → List Value → Option Value}
def f17c0 : Code := bodyOf Try.f17
def f17c1 : Code := cL f17c0
def f17c2 : Code := cR f17c0
def f17c3 : Code := cL f17c2
def f17c4 : Code := cL f17c3
def f17c5 : Code := cR f17c3
def f17c6 : Code := cL f17c5
def f17c7 : Code := cL f17c6
def f17c8 : Code := cR f17c6
def f17c9 : Code := cR f17c5
def f17c10 : Code := cR f17c2
def f17c11 : Code := cL f17c10
def f17c12 : Code := cL f17c11
def f17c13 : Code := cR f17c11
def f17c14 : Code := cL f17c13
def f17c15 : Code := cL f17c14
def f17c16 : Code := cL f17c15
def f17c17 : Code := cL f17c16
def f17c18 : Code := cR f17c16
def f17c19 : Code := cL f17c18
def f17c20 : Code := cR f17c18
def f17c21 : Code := cR f17c15
def f17c22 : Code := cL f17c21
def f17c23 : Code := cL f17c22
def f17c24 : Code := cL f17c23
def f17c25 : Code := cR f17c23
def f17c26 : Code := cL f17c25
def f17c27 : Code := cL f17c26
def f17c28 : Code := cR f17c26
def f17c29 : Code := cR f17c25
def f17c30 : Code := cR f17c21
def f17c31 : Code := cR f17c10
def f17c32 : Code := cL f17c31
def f17c33 : Code := cR f17c31
theorem f17_in {x0 x1 : AV} (hk : Open k 17) {s Q} (h : vwp (XK k) f17c0 (AEnv.of [x0, x1]) s (rtA (XK k) [.tmp 4] Q)) : VC (XK k) 17 [x0, x1] s Q := VC_in (Open.at hk) (by kernel_rfl : (XK k).fn 17 = some Try.f17) (by kernel_rfl) (by kernel_rfl) (by kernel_rfl : Try.f17.ntmps = 26) rfl h
def f17N0 := And.intro (@vS (XK k) f17c1 f17c2 f17c0 rfl) (And.intro (@vO (XK k) f17c1 _ _ _ rfl (by kernel_rfl)) (And.intro (@vS (XK k) f17c3 f17c10 f17c2 rfl) (And.intro (@vS (XK k) f17c4 f17c5 f17c3 rfl) (And.intro (@vO (XK k) f17c4 _ _ _ rfl (by kernel_rfl)) (And.intro (@vC (XK k) f17c6 f17c9 f17c5 (.tmp 10) rfl) (And.intro (@vS (XK k) f17c7 f17c8 f17c6 rfl) (And.intro (@vO (XK k) f17c7 _ _ _ rfl (by kernel_rfl)) (And.intro (@vR (XK k) f17c8 rfl) (And.intro (@vK (XK k) f17c9 rfl) (And.intro (@vS (XK k) f17c11 f17c31 f17c10 rfl) (@vS (XK k) f17c12 f17c13 f17c11 rfl)))))))))))
def f17N1 := And.intro (@vO (XK k) f17c12 _ _ _ rfl (by kernel_rfl)) (And.intro (@vB (XK k) f17c14 f17c13 0 rfl) (And.intro (@vL (XK k) f17c15 f17c14 rfl) (And.intro (@vS (XK k) f17c16 f17c21 f17c15 rfl) (And.intro (@vS (XK k) f17c17 f17c18 f17c16 rfl) (And.intro (@vO (XK k) f17c17 _ _ _ rfl (by kernel_rfl)) (And.intro (@vC (XK k) f17c19 f17c20 f17c18 (.tmp 14) rfl) (And.intro (@vK (XK k) f17c19 rfl) (And.intro (@vE (XK k) f17c20 0 rfl) (And.intro (@vS (XK k) f17c22 f17c30 f17c21 rfl) (And.intro (@vB (XK k) f17c23 f17c22 1 rfl) (@vS (XK k) f17c24 f17c25 f17c23 rfl)))))))))))
def f17N2 := And.intro (@vO (XK k) f17c24 _ _ _ rfl (by kernel_rfl)) (And.intro (@vC (XK k) f17c26 f17c29 f17c25 (.tmp 25) rfl) (And.intro (@vS (XK k) f17c27 f17c28 f17c26 rfl) (And.intro (@vO (XK k) f17c27 _ _ _ rfl (by kernel_rfl)) (And.intro (@vR (XK k) f17c28 rfl) (And.intro (@vK (XK k) f17c29 rfl) (And.intro (@vO (XK k) f17c30 _ _ _ rfl (by kernel_rfl)) (And.intro (@vS (XK k) f17c32 f17c33 f17c31 rfl) (And.intro (@vO (XK k) f17c32 _ _ _ rfl (by kernel_rfl)) (@vR (XK k) f17c33 rfl)))))))))
end
end Go.Proofs.Yticllcglldbffaa.Ab
