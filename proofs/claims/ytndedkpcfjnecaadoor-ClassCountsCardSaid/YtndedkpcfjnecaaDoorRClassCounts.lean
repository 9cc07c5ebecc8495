/- The row of ClassCounts, and its card: how many of any values are of each class; whether two lists look alike. -/
import Derived.Test.YtndedkpcfjnecaaDoorCards
import Derived.Test.YtndedkpcfjnecaaDoorTie
import Derived.Test.YtndedkpcfjnecaaDoorG
import Derived.Test.YtndedkpcfjnecaaDoorK
import Derived.Test.YtndedkpcfjnecaaDoorLCounts
import Derived.Test.YtndedkpcfjnecaaDoorA27
import Derived.SevenTiedAt
namespace Go.Proofs.YtndedkpcfjnecaaDoor.classCounts
open Go.ChangeShapes Go.WideShapes Go.ChangeAt Go.RowKit Go.Deep
open Go.Proofs.YtndedkpcfjnecaaDoor.Ab
set_option linter.unusedVariables false
set_option linter.unusedSimpArgs false
set_option maxRecDepth 100000
theorem lifted (os : Os) (started : os.Started) (H : Type) (enc : TypeId × Value → H) :
    ReturnsInHanded {} Tryd.checked os 4 .any (fun w args => (Rows.classCountsSpec.pre enc Tryd.prog Tryd.f4 [] false w args ∧ laidMetH Tryd.prog laidRows w) ∧ sizedMet enc Tryd.prog Tryd.f4 (OpenSpec.ofChange Rows.classCountsSpec) false w args)
      (Rows.classCountsSpec.post enc Tryd.prog Tryd.f4 false true false false) := by
  refine returnsInHanded_of_change_and (C := Tryd.checked) (X := fun w _ => laidMetH Tryd.prog laidRows w) (fun _ _ _ hh h => h.of_heap hh) own started (by kernel_rfl) Tryd.func4
    (ChangeSpec.witness_shaped (enc := enc) (C := Tryd.checked) (os := os) (X := fun w _ => laidMetH Tryd.prog laidRows w) false (World.doorLaid Tryd.prog 3000 os) #[.slice none 0 0, .slice none 0 0] 8 rfl (World.shaped_of_RefB (by kernel_rfl) (by kernel_rfl)) (by kernel_rfl) (by kernel_rfl) (by kernel_rfl) (door_met os _)) ?_
  intro W base args ds gs before hval0 hW _ _ hL _
  have hval : ∀ (j : Nat) t v, Tryd.f4.params[j]? = some t → args[j]? = some v → Value.okWide Tryd.prog W .any base t v := hval0
  have hW' := hW
  obtain ⟨p, q, hA0, hV, rfl, hfz, hnd⟩ := hW
  have hA : DataW.TrodAll enc Tryd.prog W 0 (fun _ => true) true Tryd.f4.params.toList args.toList ds p := hA0
  rw [Tryd.params4] at hA hval
  obtain ⟨v0, vs0, d0, ds0, p0, q0, hargs0, rfl, rfl, h0, r0⟩ := trodAll_cons hA
  obtain ⟨v1, vs1, d1, ds1, p1, q1, hargs1, rfl, rfl, h1, r1⟩ := trodAll_cons r0
  obtain ⟨rfl, rfl, rfl⟩ := trodAll_nil r1
  obtain rfl : args = #[v0, v1] := by cases args; simp_all
  obtain ⟨rfl, rfl⟩ := trodVars_none hV
  have k0 := h0
  have lt0 : ∀ x ∈ p0, x.block < W.heap.size := by obtain ⟨m, hm⟩ := k0; exact DataW.trod_lt m _ _ _ hm
  have k1 := h1
  have lt1 : ∀ x ∈ p1, x.block < W.heap.size := by obtain ⟨m, hm⟩ := k1; exact DataW.trod_lt m _ _ _ hm
  have walk : Calls Tryd.prog 4 #[v0, v1] W fun e W' => e = .returned (.bool true) ∧ Below W.heap.size W W' := by
    obtain ⟨φ1, s1, l, u0, g1, g2, g3, g4, g5⟩ := openSlice (X := XK (knL awl)) (e := .int .i64) (fun _ => rfl) (by kernel_rfl) (hval 0 25 v0 rfl rfl) h0 (Ready.start (X := XK (knL awl)) (laidWell_lt laidW) (laidWell_plain laidW) (of_laid hL))
    obtain ⟨φ2, s2, m, u1, e1, e2, e3, e4, e5⟩ := openSlice (X := XK (knL awl)) (e := .int .i64) (fun _ => rfl) (by kernel_rfl) (hval 1 25 v1 rfl rfl) h1 g1
    have hl := (LaidS.start (X := XK (knL awl)) (G := gsize) laidW laidO).ext (g3.trans e3)
    exact law_calls sound e1 (.cons _ _ _ _ (g4.mono e2) (.cons _ _ _ _ e4 .nil)) (law4 (closed_knL awl) rfl (IntsV.ext (enc_ints g5).1 e3) (enc_ints e5).1 hl)
  clear hA0 hval0
  refine walk.mono fun e W' ⟨he, bel⟩ => ?_
  subst he
  exact ⟨_, rfl, _, _, _, [], _, [], hW', trodAll_mk1 (shut_bool Tryd.underlying4 _), (trodAll_cons_mk (Below.trod laidOut (by kernel_rfl) (of_decide_eq_true (by kernel_rfl)) k0 bel lt0) (trodAll_cons_mk (Below.trod laidOut (by kernel_rfl) (of_decide_eq_true (by kernel_rfl)) k1 bel lt1) trodAll_mk0)), rfl, bel.frame _, fun h => by cases h⟩
theorem over : Rows.ClassCountsSaid :=
  OpenClaim.holds_of_wide 4 Tryd.f4 rfl rfl rfl rfl rfl rfl rfl ⟨rfl, rfl, rfl, rfl, rfl⟩ rfl rfl rfl rfl rfl (by kernel_rfl) Tryd.func4 (by kernel_rfl)
    (of_decide_eq_true (by kernel_rfl)) (by unfold Func.isWrapper; first | (rw [if_pos (by decide +kernel)]; kernel_rfl) | (rw [if_neg (by decide +kernel)]; exact ⟨rfl, rfl⟩))
    (fun os started H enc _ => lifted os started H enc)
theorem card : Rows.ClassCountsCardSaid :=
  Claim7.holds_tied_plain_at .later [] [.data, .data] true (true, "cf40d1f9a0f1cffba616691481be1422700305d6d1d576be895a9e55605e49c2") false
    over (fun _ h => by cases h) (by kernel_rfl) (fun _ h => by cases h) classCounts_row_tie rfl ⟨rfl, rfl⟩ (by kernel_rfl) rfl
    (fun f fn hf hfn => by
      obtain rfl : f = 4 := Option.some.inj ((show Tryd.prog.funcNamed "dactyl/dactyllaw03.ClassCounts" = some 4 by kernel_rfl).symm.trans hf) |>.symm
      obtain rfl : fn = Tryd.f4 := (Option.some.inj (Tryd.func4.symm.trans hfn)).symm
      exact ⟨by kernel_rfl, fun j t ht => by
        rw [Tryd.params4] at ht
        have hm : t ∈ [25, 25] := by simpa using Array.mem_of_getElem? ht
        have hall : ([25, 25].all fun u => !Tryd.prog.wantsStandIn u) = true := by kernel_rfl
        exact (show Tryd.prog.wantsStandIn t = false by simpa using List.all_eq_true.1 hall t hm)⟩)
    (by kernel_rfl)
end Go.Proofs.YtndedkpcfjnecaaDoor.classCounts
namespace Go.Proofs.YtndedkpcfjnecaaDoor
/-- The card, under a short name, for the claim. -/
theorem classCounts_holds : Rows.ClassCountsCardSaid := classCounts.card
end Go.Proofs.YtndedkpcfjnecaaDoor
#print axioms Go.Proofs.YtndedkpcfjnecaaDoor.classCounts_holds
