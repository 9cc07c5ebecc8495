import Derived.Test.YticllcglldbffaaDoorW
namespace Go.Proofs.YticllcglldbffaaDoor.Ab
open Go.Proofs
set_option maxRecDepth 100000
set_option linter.unusedVariables false
set_option linter.defProp false
noncomputable section
variable {k : Nat → List Value → Option Value}
def LK : Code := aA Tryd.f54
def an8 : Code := cL LK
def QD : Code := cR LK
def am6 : Code := cL QD
def MH : Code := cR QD
def aq2 : Code := cL MH
def OA : Code := cR MH
def arP : Code := cL OA
def aqY : Code := cR OA
theorem atK {x0 x1 : AV} (hk : ax k 54) {s Q} (h : vwp (XK k) LK (au.of [x0, x1]) s (rtA (XK k) [.tmp 4, .tmp 5] Q)) : VC (XK k) 54 [x0, x1] s Q := aE (ax.at hk) (by kernel_rfl : (XK k).fn 54 = some Tryd.f54) (by kernel_rfl) (by kernel_rfl) (by kernel_rfl : Tryd.f54.ntmps = 19) rfl h
def Va := And.intro (@vS (XK k) an8 QD LK rfl) (And.intro (@vO (XK k) an8 _ _ _ rfl (by kernel_rfl)) (And.intro (@vS (XK k) am6 MH QD rfl) (And.intro (@vO (XK k) am6 _ _ _ rfl (by kernel_rfl)) (And.intro (@vS (XK k) aq2 OA MH rfl) (And.intro (@vO (XK k) aq2 _ _ _ rfl (by kernel_rfl)) (And.intro (@vS (XK k) arP aqY OA rfl) (And.intro (@vO (XK k) arP _ _ _ rfl (by kernel_rfl)) (@vR (XK k) aqY rfl))))))))
def MK : Code := aA Tryd.f56
def arL : Code := cL MK
def Ph : Code := cR MK
def am1 : Code := cL Ph
def aoJ : Code := cR Ph
theorem avB {x0 : AV} (hk : ax k 56) {s Q} (h : vwp (XK k) MK (au.of [x0]) s (rtA (XK k) [.tmp 2] Q)) : VC (XK k) 56 [x0] s Q := aE (ax.at hk) (by kernel_rfl : (XK k).fn 56 = some Tryd.f56) (by kernel_rfl) (by kernel_rfl) (by kernel_rfl : Tryd.f56.ntmps = 14) rfl h
def amS := And.intro (@vS (XK k) arL Ph MK rfl) (And.intro (@vO (XK k) arL _ _ _ rfl (by kernel_rfl)) (And.intro (@vS (XK k) am1 aoJ Ph rfl) (And.intro (@vO (XK k) am1 _ _ _ rfl (by kernel_rfl)) (@vR (XK k) aoJ rfl))))
def OS : Code := aA Tryd.f86
def aoC : Code := cL OS
def Rn : Code := cR OS
def anX : Code := cL Rn
def Rq : Code := cR Rn
def anI : Code := cL Rq
def O0 : Code := cR Rq
def aw3 : Code := cL O0
def aqS : Code := cR O0
theorem atD {x0 : AV} (hk : ax k 86) {s Q} (h : vwp (XK k) OS (au.of [x0]) s (rtA (XK k) [] Q)) : VC (XK k) 86 [x0] s Q := aE (ax.at hk) (by kernel_rfl : (XK k).fn 86 = some Tryd.f86) (by kernel_rfl) (by kernel_rfl) (by kernel_rfl : Tryd.f86.ntmps = 20) rfl h
def Zr := And.intro (@vS (XK k) aoC Rn OS rfl) (And.intro (@vO (XK k) aoC _ _ _ rfl (by kernel_rfl)) (And.intro (@vC (XK k) anX Rq Rn (.tmp 6) rfl) (And.intro (@vO (XK k) anX _ _ _ rfl (by kernel_rfl)) (And.intro (@vS (XK k) anI O0 Rq rfl) (And.intro (@vO (XK k) anI _ _ _ rfl (by kernel_rfl)) (And.intro (@vC (XK k) aw3 aqS O0 (.tmp 19) rfl) (@vK (XK k) aqS rfl)))))))
end
end Go.Proofs.YticllcglldbffaaDoor.Ab
