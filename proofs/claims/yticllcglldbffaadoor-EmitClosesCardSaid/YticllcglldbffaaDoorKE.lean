import Derived.Test.YticllcglldbffaaDoorRows
import Derived.Test.YticllcglldbffaaDoorC4
import Derived.Test.YticllcglldbffaaDoorW
import Derived.LaidMore
import Derived.Stop.Joined
import Derived.Test.YticllcglldbffaaDoorP2
import Derived.Test.YticllcglldbffaaDoorD3
import Derived.Test.YticllcglldbffaaDoorKX
namespace Go.Proofs.YticllcglldbffaaDoor.Ab
open Go.Proofs Go.ChangeShapes Go.WideShapes Go.ChangeAt Go.RowKit Go.Deep
set_option maxRecDepth 100000
set_option linter.unusedVariables false
def bQ : List (String × DataW Unit) := [("dactyl/class.ranges", Rows.laid_dactyl_class_ranges), ("dactyl/class.looks", Rows.laid_dactyl_class_looks)]
def awB : List Value := ((laid.find? (·.1 == 1)).map (·.2)).getD []
def awV : List Value := ((laid.find? (·.1 == 2)).map (·.2)).getD []
theorem au6 : laid = [(2, awV), (1, awB)] := by kernel_rfl
theorem NN : Tryd.prog.globalNamed "dactyl/class.ranges" = some 1 := by kernel_rfl
theorem af2 : Tryd.prog.globalNamed "dactyl/class.looks" = some 2 := by kernel_rfl
theorem al3 : (Tryd.prog.globals[1]?).map (·.type) = some 155 := by kernel_rfl
theorem asY : (Tryd.prog.globals[2]?).map (·.type) = some 156 := by kernel_rfl
theorem ajY : Tryd.prog.underlying 155 = some (.array 168 21) := by kernel_rfl
theorem auP : Tryd.prog.underlying 156 = some (.array 102 21) := by kernel_rfl
theorem u21 : Tryd.prog.underlying 21 = some (.int .i32) := by kernel_rfl
theorem c21 : Tryd.prog.cellsOf 21 = 1 := by kernel_rfl
theorem ub {W : World} (h : laidMetH Tryd.prog bQ W) : iK laid W ∧ 0 < W.heap.size := by
  rw [MakeChecks.laidMetH_plain _ _ _ (by kernel_rfl)] at h
  obtain ⟨ps, ⟨g0, t0, cs0, f0, p0, q0, hg0, ht0, hv0, hd0, ⟨g1, t1, cs1, f1, p1, q1, hg1, ht1, hv1, hd1, _, _⟩, _⟩, _, _⟩ := h
  obtain rfl := Option.some.inj (NN.symm.trans hg0)
  obtain rfl := Option.some.inj (af2.symm.trans hg1)
  obtain rfl := Option.some.inj (al3.symm.trans ht0)
  obtain rfl := Option.some.inj (asY.symm.trans ht1)
  have r0 := lh (l := awB) NN hv0 ajY u21 c21 hd0 (by kernel_rfl)
  have r1 := lh (l := awV) af2 hv1 auP u21 c21 hd1 (by kernel_rfl)
  refine ⟨?_, Nat.lt_of_le_of_lt (Nat.zero_le _) (r0.1 (by decide))⟩
  rw [au6]
  exact pV (r1.1 (by decide)) r1.2 (pV (r0.1 (by decide)) r0.2 JE)
theorem n0 (os : Os) (args : Array Value) : laidMetH Tryd.prog bQ ((World.doorLaid Tryd.prog 3000 os).forCall (fun _ _ => 0) ⟨#[], args, []⟩).memory :=
  laidMetH_of_parts3 (fuel := 8) (laidMet_of_run' 8 (by kernel_rfl) (by kernel_rfl)) (by kernel_rfl) (by kernel_rfl)
theorem own : ownKnob Tryd.prog.godebug = none := by kernel_rfl
theorem lN : laidOutB Tryd.prog = true := by kernel_rfl
end Go.Proofs.YticllcglldbffaaDoor.Ab
namespace Go.Proofs.YticllcglldbffaaDoor.Ab
open Go.Proofs
set_option maxRecDepth 100000
set_option linter.unusedVariables false
def kOf (f : Nat) (args : List Value) : Option Value := if f = 112 then match args with | [.int .i64 v] => some (.int .i64 (aB v)) | _ => none else none
theorem HU : lu laid = true := by kernel_rfl
theorem SX (f : Nat) : ax (fun _ _ => none) f := fun _ _ => rfl
theorem Vh (l : List Nat) (f : Nat) : ax (knL l) f := fun v r => by simp [knL]
theorem ut {k : Nat → List Value → Option Value} : (XK k).laid.all (fun p => p.2.all bD) = true := by
  rw [List.all_eq_true]
  intro p hp
  rw [List.all_eq_true]
  exact bG gw p hp
theorem Iv : mH Tryd.prog laid kOf := by
  intro f args v hk hp
  unfold kOf at hk
  split at hk
  · rename_i hf
    subst hf
    split at hk
    · rename_i x
      cases hk
      have hl : ea (XK fun _ _ => none) (f4 oj (XK fun _ _ => none)) := ea.start gw HU
      refine H9 (J8 (k := fun _ _ => none) (fun _ _ _ h => by cases h)) (G := oj) gw (by kernel_rfl) hp rfl ?_
      refine jE (m9 (fun f _ _ => SX f) x eE (Di (f4 oj (XK fun _ _ => none))) _ _ (HG hl ut) (.cons _ _ _ _ (.c _ rfl) .nil)) ?_
      rintro r s' ⟨v, vs', d', ⟨rfl, _⟩, hv, _, _⟩
      cases hv
      rfl
    · cases hk
  · cases hk
def ajW : List Value → Option Value
  | [.string s, .string b] => match b.data.toList with
    | [c] => some (.int .i64 (Lib.indexByte s.data.toList c))
    | _ => none
  | _ => none
theorem wM {args : List Value} {v : Value} (hk : ajW args = some v) : (∃ fn, Tryd.prog.funcs[149]? = some fn ∧ fn.body.isSome = true ∧ (fn.name == "runtime.NumGoroutine") = false) ∧ ∀ w, iK laid w → Calls Tryd.prog 149 args.toArray w fun e w' => e = .returned v ∧ SH w w' := by
  refine ⟨⟨_, Tryd.func149, by kernel_rfl, by kernel_rfl⟩, fun w _ => ?_⟩
  unfold ajW at hk
  split at hk
  · rename_i s b
    split at hk
    · rename_i c hb
      cases hk
      have hbe : b = ⟨#[c]⟩ := by
        cases b
        rename_i d
        cases d
        simp at hb
        rw [hb]
      subst hbe
      refine (Sm s c w).mono ?_
      rintro e w' ⟨rfl, rfl⟩
      exact ⟨rfl, rfl, rfl, rfl, Nat.le_refl _, fun _ _ => rfl⟩
    · cases hk
  · cases hk
def asL (f : Nat) (args : List Value) : Option Value := if f = 149 then ajW args else kOf f args
theorem K4 : mH Tryd.prog laid asL := by
  intro f args v hk hp
  unfold asL at hk
  split at hk
  · rename_i hf
    subst hf
    exact wM hk
  · exact Iv f args v hk hp
theorem ayA : awk oj (XK asL) 22 = true := by kernel_rfl
def awE : List Nat := [22]
theorem Sc : mH Tryd.prog laid (knL awE) := Kg (X0 := X0) (J8 K4) gw fun f hf => by
  simp only [awE, List.mem_cons, List.not_mem_nil, or_false] at hf
  subst hf
  exact ayA
def knX (l : List Nat) (f : Nat) (args : List Value) : Option Value := if f = 149 then ajW args else knL l f args
theorem SK {l : List Nat} (hl : mH Tryd.prog laid (knL l)) : mH Tryd.prog laid (knX l) := by
  intro f args v hk hp
  unfold knX at hk
  split at hk
  · rename_i hf
    subst hf
    exact wM hk
  · exact hl f args v hk hp
theorem n6 (l : List Nat) : ∀ f, f ≠ 105 → f ≠ 149 → ax (knX l) f := fun f _ hf v r => by
  unfold knX
  rw [if_neg hf]
  exact Vh l f v r
theorem as6 (l : List Nat) (s : List UInt8) (c : UInt8) : knX l 149 [.string ⟨s.toArray⟩, .string ⟨#[c]⟩] = some (.int .i64 (Lib.indexByte s c)) := by
  unfold knX
  rw [if_pos rfl]
  rfl
theorem rm (l : List Nat) : ∀ (s : List UInt8) (c : UInt8), PC (XK (knX l)) 149 [tx s, tx [c]] (.c (.int .i64 (Lib.indexByte s c))) := fun s c _ =>
  gX (ws := [.string ⟨s.toArray⟩, .string ⟨#[c]⟩]) (v := .int .i64 (Lib.indexByte s c)) (as6 l s c) rfl rfl ⟨rfl, rfl⟩
theorem CO : dG (XK (knX awE)) Tryd.prog := J8 (SK Sc)
end Go.Proofs.YticllcglldbffaaDoor.Ab
