/- The row of EscTexts: the text of any history, and back. -/
import Derived.Test.YticllcglldbffaaRows
import Derived.Test.YticllcglldbffaaKP2
import Derived.Test.YticllcglldbffaaC4
import Derived.Test.YticllcglldbffaaQ9
import Derived.WalkKit
import Derived.ProofKit
import Derived.OpenShut
import Derived.ChangeOld
import Derived.Below
import Derived.Carry
import Derived.SizedLaws
import Derived.Deep.Slices
import Derived.Deep.Fields
import Derived.ChangeSame
namespace Go.Proofs.Yticllcglldbffaa.escTexts
open Go.ChangeShapes Go.WideShapes Go.ChangeAt Go.RowKit Go.Deep
open Go.Proofs.Yticllcglldbffaa.Ab
set_option linter.unusedVariables false
set_option linter.unusedSimpArgs false
set_option maxRecDepth 100000
theorem own : ownKnob Try.prog.godebug = none := by kernel_rfl
theorem laidOut : laidOutB Try.prog = true := by kernel_rfl
theorem lifted (os : Os) (started : os.Started) (H : Type) (enc : TypeId × Value → H) :
    ReturnsInHanded {} Try.checked os 3 .any (Rows.escTextsSpec.pre6 enc Try.prog Try.f3 Rows.escTextsRow.domain false) (Rows.escTextsSpec.post enc Try.prog Try.f3 false true false false) := by
  refine returnsInHanded_of_change_sized (C := Try.checked) own started (by kernel_rfl) Try.func3
    (ChangeSpec.witness6 (enc := enc) (C := Try.checked) false ⟨#[], #[.slice none 0 0], []⟩ 8 (by kernel_rfl) (by kernel_rfl) (by kernel_rfl) (by kernel_rfl)) ?_
  intro W base args ds gs before hval0 hW hcnd hsz0 _
  have hval : ∀ (j : Nat) t v, Try.f3.params[j]? = some t → args[j]? = some v → Value.okWide Try.prog W .any base t v := hval0
  have hW' := hW
  obtain ⟨p, q, hA0, hV, rfl, hfz, hnd⟩ := hW
  have hA : DataW.TrodAll enc Try.prog W 0 (fun _ => true) true Try.f3.params.toList args.toList ds p := hA0
  rw [Try.params3] at hA hval
  obtain ⟨v0, vs0, d0, ds0, p0, q0, hargs0, rfl, rfl, h0, r0⟩ := trodAll_cons hA
  obtain ⟨rfl, rfl, rfl⟩ := trodAll_nil r0
  obtain rfl : args = #[v0] := by cases args; simp_all
  obtain ⟨rfl, rfl⟩ := trodVars_none hV
  have k0 := h0
  have lt0 : ∀ x ∈ p0, x.block < W.heap.size := by obtain ⟨m, hm⟩ := k0; exact DataW.trod_lt m _ _ _ hm
  have walk : Calls Try.prog 3 #[v0] W fun e W' => e = .returned (.bool true) ∧ Below W.heap.size W W' := by
    obtain ⟨φ0, s0, y0, c0, a0, b0, e0, f0, g0⟩ := openSlice (X := XK (knP awq)) (e := (.slice signD)) (fun _ => rfl) (by kernel_rfl) (hval 0 22 v0 rfl rfl) h0 (Ready.start (X := XK (knP awq)) (laidWell_lt laidW) (laidWell_plain laidW) (show LaidIn [] W from laidIn_nil))
    have hl := ((LaidS.start (X := XK (knP awq)) (G := gsize) laidW laidO).ext e0)
    exact law_calls soundQ a0 (.cons _ _ _ _ f0 .nil) (WC_of_VC hl laidPl ((TD.Enc.vr (.slice (.slice signD)) _ _ g0).append .nil) (escTexts_all y0 (slice_len Try.underlying22 (hval 0 22 v0 rfl rfl) f0 g0) emptyVS))
  clear hA0 hval0 hsz0
  refine walk.mono fun e W' ⟨he, bel⟩ => ?_
  subst he
  exact ⟨_, rfl, _, _, _, [], _, [], hW', trodAll_mk1 (shut_bool Try.underlying4 _), (trodAll_cons_mk (Below.trod laidOut (by kernel_rfl) (of_decide_eq_true (by kernel_rfl)) k0 bel lt0) trodAll_mk0), rfl, bel.frame _, fun h => by cases h⟩
theorem over : Rows.escTextsRow.holds Try.pinned (OpenSpec.ofChange Rows.escTextsSpec) :=
  OpenClaim.holds_of_wide 3 Try.f3 rfl rfl rfl rfl rfl rfl rfl ⟨rfl, rfl, rfl, rfl, rfl⟩ rfl rfl rfl rfl rfl (by kernel_rfl) Try.func3 (by kernel_rfl)
    (of_decide_eq_true (by kernel_rfl)) (by unfold Func.isWrapper; first | (rw [if_pos (by decide +kernel)]; kernel_rfl) | (rw [if_neg (by decide +kernel)]; exact ⟨rfl, rfl⟩))
    (fun os started H enc _ => lifted os started H enc)
theorem proved : Rows.EscTextsSaid := over
end Go.Proofs.Yticllcglldbffaa.escTexts
namespace Go.Proofs.Yticllcglldbffaa
/-- The row, under a short name, for the claim. -/
theorem escTexts_holds : Rows.EscTextsSaid := escTexts.proved
end Go.Proofs.Yticllcglldbffaa
#print axioms Go.Proofs.Yticllcglldbffaa.escTexts_holds
