/- The row of SpoofScripts, and its card: scripts, and what is alike. -/
import Derived.Test.YtpckldhojfjdmaaDoorCards
import Derived.Test.YtpckldhojfjdmaaDoorTie
import Derived.Test.YtpckldhojfjdmaaDoorKB2
import Derived.Test.YtpckldhojfjdmaaDoorC4
import Derived.Test.YtpckldhojfjdmaaDoorM8
import Derived.ChangeMaps5
import Derived.SevenTiedAt
namespace Go.Proofs.YtpckldhojfjdmaaDoor.spoofScripts
open Go.ChangeShapes Go.WideShapes Go.ChangeAt Go.RowKit Go.Deep
open Go.Proofs.YtpckldhojfjdmaaDoor.Ab
set_option linter.unusedVariables false
set_option linter.unusedSimpArgs false
set_option maxRecDepth 100000
theorem lifted (os : Os) (started : os.Started) (H : Type) (enc : TypeId × Value → H) :
    ReturnsInHanded {} Tryd.checked os 9 .any (fun w args => (Rows.spoofScriptsSpec.pre enc Tryd.prog Tryd.f9 [] false w args ∧ laidMetH Tryd.prog laidRows w) ∧ sizedMet enc Tryd.prog Tryd.f9 (OpenSpec.ofChange Rows.spoofScriptsSpec) false w args)
      (Rows.spoofScriptsSpec.post enc Tryd.prog Tryd.f9 false true false false) := by
  refine returnsInHanded_of_change_and (C := Tryd.checked) (X := fun w _ => laidMetH Tryd.prog laidRows w) (fun _ _ _ hh h => h.of_heap hh) own started (by kernel_rfl) Tryd.func9
    (ChangeSpec.witness_shaped (enc := enc) (C := Tryd.checked) (os := os) (X := fun w _ => laidMetH Tryd.prog laidRows w) false (World.doorLaid Tryd.prog 3000 os) #[.string ⟨#[]⟩, .slice none 0 0] 8 rfl (World.shaped_of_RefB (by kernel_rfl) (by kernel_rfl)) (by kernel_rfl) (by kernel_rfl) (by kernel_rfl) (door_met os _)) ?_
  intro W base args ds gs before hval0 hW _ _ hL _
  have hval : ∀ (j : Nat) t v, Tryd.f9.params[j]? = some t → args[j]? = some v → Value.okWide Tryd.prog W .any base t v := hval0
  have hW' := hW
  obtain ⟨p, q, hA0, hV, rfl, hfz, hnd⟩ := hW
  have hA : DataW.TrodAll enc Tryd.prog W 0 (fun _ => true) true Tryd.f9.params.toList args.toList ds p := hA0
  rw [Tryd.params9] at hA hval
  obtain ⟨v0, vs0, d0, ds0, p0, q0, hargs0, rfl, rfl, h0, r0⟩ := trodAll_cons hA
  obtain ⟨v1, vs1, d1, ds1, p1, q1, hargs1, rfl, rfl, h1, r1⟩ := trodAll_cons r0
  obtain ⟨rfl, rfl, rfl⟩ := trodAll_nil r1
  obtain rfl : args = #[v0, v1] := by cases args; simp_all
  obtain ⟨rfl, rfl⟩ := trodVars_none hV
  have k0 := h0
  have lt0 : ∀ x ∈ p0, x.block < W.heap.size := by obtain ⟨m, hm⟩ := k0; exact DataW.trod_lt m _ _ _ hm
  have k1 := h1
  have lt1 : ∀ x ∈ p1, x.block < W.heap.size := by obtain ⟨m, hm⟩ := k1; exact DataW.trod_lt m _ _ _ hm
  have walk : Calls Tryd.prog 9 #[v0, v1] W fun e W' => e = .returned (.bool true) ∧ Below W.heap.size W W' := by
    obtain ⟨y0, rfl, _⟩ := Go.ChangeMaps.open_string Tryd.underlying9 (hval 0 9 v0 rfl rfl) h0
    obtain ⟨φ1, s1, y1, c1, a1, b1, e1, f1, g1⟩ := openSlice (X := XK (knRl awl2)) (e := .str) (fun _ => rfl) (by kernel_rfl) (hval 1 44 v1 rfl rfl) h1 (Ready.start (X := XK (knRl awl2)) (laidWell_lt laidW) (laidWell_plain laidW) (of_laid hL).1)
    have hl := ((LaidS.start (X := XK (knRl awl2)) (G := gsize) laidW laidO).ext e1)
    exact law_calls sound2 a1 (.cons _ _ _ _ (VRel.string _) (.cons _ _ _ _ f1 .nil)) (WC_of_VC hl laidPl (.cons _ _ _ _ (.c _ rfl) ((TD.Enc.vr (.slice .str) _ _ g1).append .nil)) (spoofScripts_ok (open_knRl awl2) rfl y0 y1 emptyVS))
  clear hA0 hval0
  refine walk.mono fun e W' ⟨he, bel⟩ => ?_
  subst he
  exact ⟨_, rfl, _, _, _, [], _, [], hW', trodAll_mk1 (shut_bool Tryd.underlying4 _), (trodAll_cons_mk (Below.trod laidOut (by kernel_rfl) (of_decide_eq_true (by kernel_rfl)) k0 bel lt0) (trodAll_cons_mk (Below.trod laidOut (by kernel_rfl) (of_decide_eq_true (by kernel_rfl)) k1 bel lt1) trodAll_mk0)), rfl, bel.frame _, fun h => by cases h⟩
theorem over : Rows.SpoofScriptsSaid :=
  OpenClaim.holds_of_wide 9 Tryd.f9 rfl rfl rfl rfl rfl rfl rfl ⟨rfl, rfl, rfl, rfl, rfl⟩ rfl rfl rfl rfl rfl (by kernel_rfl) Tryd.func9 (by kernel_rfl)
    (of_decide_eq_true (by kernel_rfl)) (by unfold Func.isWrapper; first | (rw [if_pos (by decide +kernel)]; kernel_rfl) | (rw [if_neg (by decide +kernel)]; exact ⟨rfl, rfl⟩))
    (fun os started H enc _ => lifted os started H enc)
theorem card : Rows.SpoofScriptsCardSaid :=
  Claim7.holds_tied_plain_at .later [] [.data, .data] true (true, "eb7ece749ac17d7ab4912fddd7cf6d11f877ce40af0109cc50da3bc316b37db0") false
    over (fun _ h => by cases h) (by kernel_rfl) (fun _ h => by cases h) spoofScripts_row_tie rfl ⟨rfl, rfl⟩ (by kernel_rfl) rfl
    (fun f fn hf hfn => by
      obtain rfl : f = 9 := Option.some.inj ((show Tryd.prog.funcNamed "dactyl/dactyllaw44.SpoofScripts" = some 9 by kernel_rfl).symm.trans hf) |>.symm
      obtain rfl : fn = Tryd.f9 := (Option.some.inj (Tryd.func9.symm.trans hfn)).symm
      exact ⟨by kernel_rfl, fun j t ht => by
        rw [Tryd.params9] at ht
        have hm : t ∈ [9, 44] := by simpa using Array.mem_of_getElem? ht
        have hall : ([9, 44].all fun u => !Tryd.prog.wantsStandIn u) = true := by kernel_rfl
        exact (show Tryd.prog.wantsStandIn t = false by simpa using List.all_eq_true.1 hall t hm)⟩)
    (by kernel_rfl)
end Go.Proofs.YtpckldhojfjdmaaDoor.spoofScripts
namespace Go.Proofs.YtpckldhojfjdmaaDoor
/-- The card, under a short name, for the claim. -/
theorem spoofScripts_holds : Rows.SpoofScriptsCardSaid := spoofScripts.card
end Go.Proofs.YtpckldhojfjdmaaDoor
#print axioms Go.Proofs.YtpckldhojfjdmaaDoor.spoofScripts_holds
