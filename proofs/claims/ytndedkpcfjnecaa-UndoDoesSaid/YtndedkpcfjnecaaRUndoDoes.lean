/- The row of UndoDoes: every call of a trail is answered by the lines that were. -/
import Derived.Test.YtndedkpcfjnecaaRows
import Derived.Test.YtndedkpcfjnecaaKU
import Derived.Test.YtndedkpcfjnecaaC4
import Derived.Test.YtndedkpcfjnecaaO12
import Derived.WalkKit
import Derived.ProofKit
import Derived.OpenShut
import Derived.ChangeOld
import Derived.Below
import Derived.Carry
import Derived.SizedLaws
import Derived.Deep.Slices
import Derived.Deep.Fields
import Derived.ChangeSame
namespace Go.Proofs.Ytndedkpcfjnecaa.undoDoes
open Go.ChangeShapes Go.WideShapes Go.ChangeAt Go.RowKit Go.Deep
open Go.Proofs.Ytndedkpcfjnecaa.Ab
set_option linter.unusedVariables false
set_option linter.unusedSimpArgs false
set_option maxRecDepth 100000
theorem own : ownKnob Try.prog.godebug = none := by kernel_rfl
theorem laidOut : laidOutB Try.prog = true := by kernel_rfl
theorem lifted (os : Os) (started : os.Started) (H : Type) (enc : TypeId × Value → H) :
    ReturnsInHanded {} Try.checked os 8 .any (Rows.undoDoesSpec.pre6 enc Try.prog Try.f8 Rows.undoDoesRow.domain false) (Rows.undoDoesSpec.post enc Try.prog Try.f8 false true false false) := by
  refine returnsInHanded_of_change_sized (C := Try.checked) own started (by kernel_rfl) Try.func8
    (ChangeSpec.witness6 (enc := enc) (C := Try.checked) false ⟨#[], #[.int .i64 0, .slice none 0 0], []⟩ 8 (by kernel_rfl) (by kernel_rfl) (by kernel_rfl) (by kernel_rfl)) ?_
  intro W base args ds gs before hval0 hW hcnd hsz0 _
  have hval : ∀ (j : Nat) t v, Try.f8.params[j]? = some t → args[j]? = some v → Value.okWide Try.prog W .any base t v := hval0
  have hW' := hW
  obtain ⟨p, q, hA0, hV, rfl, hfz, hnd⟩ := hW
  have hA : DataW.TrodAll enc Try.prog W 0 (fun _ => true) true Try.f8.params.toList args.toList ds p := hA0
  rw [Try.params8] at hA hval
  obtain ⟨v0, vs0, d0, ds0, p0, q0, hargs0, rfl, rfl, h0, r0⟩ := trodAll_cons hA
  obtain ⟨v1, vs1, d1, ds1, p1, q1, hargs1, rfl, rfl, h1, r1⟩ := trodAll_cons r0
  obtain ⟨rfl, rfl, rfl⟩ := trodAll_nil r1
  obtain rfl : args = #[v0, v1] := by cases args; simp_all
  obtain ⟨rfl, rfl⟩ := trodVars_none hV
  have k0 := h0
  have lt0 : ∀ x ∈ p0, x.block < W.heap.size := by obtain ⟨m, hm⟩ := k0; exact DataW.trod_lt m _ _ _ hm
  have k1 := h1
  have lt1 : ∀ x ∈ p1, x.block < W.heap.size := by obtain ⟨m, hm⟩ := k1; exact DataW.trod_lt m _ _ _ hm
  have walk : Calls Try.prog 8 #[v0, v1] W fun e W' => e = .returned (.bool true) ∧ Below W.heap.size W W' := by
    obtain ⟨y0, rfl, _, _, z0⟩ := open_int Try.underlying3 (hval 0 3 v0 rfl rfl) h0
    obtain ⟨φ1, s1, y1, c1, a1, b1, e1, f1, g1⟩ := openSlice (X := XK (knRl awu)) (e := callUD) (fun _ => rfl) (by kernel_rfl) (hval 1 60 v1 rfl rfl) h1 (Ready.start (X := XK (knRl awu)) (laidWell_lt laidW) (laidWell_plain laidW) (show LaidIn [] W from laidIn_nil))
    have hl := ((LaidS.start (X := XK (knRl awu)) (G := gsize) laidW laidO).ext e1)
    exact law_calls soundU a1 (.cons _ _ _ _ (VRel.int _ _) (.cons _ _ _ _ f1 .nil)) (WC_of_VC hl laidPl (.cons _ _ _ _ (.c _ rfl) ((TD.Enc.vr (.slice callUD) _ _ g1).append .nil)) (undoDoes_all (open_knRl awu) rfl y0 y1 emptyVS))
  clear hA0 hval0 hsz0
  refine walk.mono fun e W' ⟨he, bel⟩ => ?_
  subst he
  exact ⟨_, rfl, _, _, _, [], _, [], hW', trodAll_mk1 (shut_bool Try.underlying4 _), (trodAll_cons_mk (Below.trod laidOut (by kernel_rfl) (of_decide_eq_true (by kernel_rfl)) k0 bel lt0) (trodAll_cons_mk (Below.trod laidOut (by kernel_rfl) (of_decide_eq_true (by kernel_rfl)) k1 bel lt1) trodAll_mk0)), rfl, bel.frame _, fun h => by cases h⟩
theorem over : Rows.undoDoesRow.holds Try.pinned (OpenSpec.ofChange Rows.undoDoesSpec) :=
  OpenClaim.holds_of_wide 8 Try.f8 rfl rfl rfl rfl rfl rfl rfl ⟨rfl, rfl, rfl, rfl, rfl⟩ rfl rfl rfl rfl rfl (by kernel_rfl) Try.func8 (by kernel_rfl)
    (of_decide_eq_true (by kernel_rfl)) (by unfold Func.isWrapper; first | (rw [if_pos (by decide +kernel)]; kernel_rfl) | (rw [if_neg (by decide +kernel)]; exact ⟨rfl, rfl⟩))
    (fun os started H enc _ => lifted os started H enc)
theorem proved : Rows.UndoDoesSaid := over
end Go.Proofs.Ytndedkpcfjnecaa.undoDoes
namespace Go.Proofs.Ytndedkpcfjnecaa
/-- The row, under a short name, for the claim. -/
theorem undoDoes_holds : Rows.UndoDoesSaid := undoDoes.proved
end Go.Proofs.Ytndedkpcfjnecaa
#print axioms Go.Proofs.Ytndedkpcfjnecaa.undoDoes_holds
