/- The row of SignRuns. -/
import Derived.Test.YtndedkpcfjnecaaRows
import Derived.Test.YtndedkpcfjnecaaLSignRuns
import Derived.Test.YtndedkpcfjnecaaA21
import Derived.WalkKit
import Derived.ProofKit
import Derived.OpenShut
import Derived.ChangeOld
import Derived.Below
import Derived.Carry
import Derived.SizedLaws
import Derived.Deep.Slices
import Derived.Deep.Fields
import Derived.ChangeSame
namespace Go.Proofs.Ytndedkpcfjnecaa.signRuns
open Go.ChangeShapes Go.WideShapes Go.ChangeAt Go.RowKit Go.Deep
open Go.Proofs.Ytndedkpcfjnecaa.Ab
set_option linter.unusedVariables false
set_option linter.unusedSimpArgs false
set_option maxRecDepth 100000
theorem own : ownKnob Try.prog.godebug = none := by kernel_rfl
theorem laidOut : laidOutB Try.prog = true := by kernel_rfl

/-- The signs that a handed slice holds. -/
theorem opened {H : Type} {enc : TypeId × Value → H} {w : World} {base : Nat} {t : Nat} {v : Value} {d : DataW H} {p : List MemPlace} {r : Reach} (ht : Try.prog.underlying t = some (.slice 29))
    (hv : Value.okWide Try.prog w r base t v) (h : DataW.Trod enc Try.prog w 0 (fun _ => true) true t v d p) :
    v = .slice none 0 0 ∨ ∃ (x : Addr) (len cap : Nat) (l : List (Int × Int)), v = .slice (some x) len cap ∧ x.spot = none ∧ x.block < w.heap.size ∧ len ≤ cap ∧ l.length = len ∧
      ∀ i u, (l.flatMap encS)[i]? = some u → w.cell? (x.add i) = some u := by
  obtain ⟨a, len, cap, rfl⟩ := okWide_slice ht hv
  obtain ⟨fuel, hf⟩ := h
  rcases open_slice ht hf with ⟨hcs, _⟩ | ⟨x, len', cap', m, n, D, Pl, hcs, _, hl, hm, hmm, _, hi⟩
  · left
    simp [Value.cells] at hcs
    obtain ⟨rfl, rfl, rfl⟩ := hcs
    rfl
  · right
    simp [Value.cells] at hcs
    obtain ⟨rfl, rfl, rfl⟩ := hcs
    obtain ⟨h1, h2, h3⟩ := slice_there ht hv
    have hC : Try.prog.cellsOf 29 = 2 := by kernel_rfl
    have hu : Try.prog.underlying 29 = some (.struct #[⟨ "V", 3, 0, false, "", "", 0⟩, ⟨ "L", 3, 1, false, "", "", 8⟩]) := by kernel_rfl
    have h3u : Try.prog.underlying 3 = some (.int .i64) := by kernel_rfl
    have hC3 : Try.prog.cellsOf 3 = 1 := by kernel_rfl
    have each : ∀ i, i < len → ∃ q : Int × Int, w.cell? (x.add (i * 2)) = some (.int .i64 q.1) ∧ w.cell? (x.add (i * 2 + 1)) = some (.int .i64 q.2) := by
      intro i hilt
      obtain ⟨cs', hc, ht'⟩ := hi i (by rw [hmm]; simp; omega)
      rw [hC] at hc
      obtain ⟨_, hcl, hat⟩ := World.cells?_some hc
      obtain ⟨ys, n', hn', hy, hlen, hyl, hf'⟩ := DataW.trod_struct hu ht'
      have f0 := hf' 0 _ rfl
      have f1 := hf' 1 _ rfl
      change DataW.trod _ _ _ _ _ _ _ 3 ((cs'.drop 0).take (Try.prog.cellsOf 3)) = _ at f0
      change DataW.trod _ _ _ _ _ _ _ 3 ((cs'.drop 1).take (Try.prog.cellsOf 3)) = _ at f1
      rw [hC3] at f0 f1
      obtain ⟨n0, e0, _, _⟩ := DataW.trod_int h3u (f0.trans (List.getElem?_eq_getElem (by rw [hyl]; decide)))
      obtain ⟨n1, e1, _, _⟩ := DataW.trod_int h3u (f1.trans (List.getElem?_eq_getElem (by rw [hyl]; decide)))
      have c0 := hat 0 (by omega)
      have c1 := hat 1 (by omega)
      match cs', hcl with
      | [u0, u1], _ =>
        simp at e0 e1
        subst e0; subst e1
        refine ⟨(n0, n1), ?_, ?_⟩
        · have e0 : (x.add (i * 2)).add 0 = x.add (i * 2) := rfl
          rw [e0] at c0
          simpa using c0
        · rw [Go.Deep.add_add] at c1; simpa using c1
    have build : ∀ m, m ≤ len → ∃ l : List (Int × Int), l.length = m ∧ ∀ i u, (l.flatMap encS)[i]? = some u → w.cell? (x.add i) = some u := by
      intro m
      induction m with
      | zero => intro _; exact ⟨[], rfl, fun i u hu => by simp at hu⟩
      | succ m ih =>
        intro hm
        obtain ⟨l, h1, h2⟩ := ih (by omega)
        obtain ⟨q, h3, h4⟩ := each m (by omega)
        refine ⟨l ++ [q], by simp [h1], fun i u hu => ?_⟩
        have hfl : (l.flatMap encS).length = m * 2 := by rw [flatMap_length encS 2 (fun _ => rfl), h1]
        rw [List.flatMap_append] at hu
        rcases Nat.lt_or_ge i (m * 2) with h5 | h5
        · rw [List.getElem?_append_left (by omega)] at hu
          exact h2 i u hu
        · rw [List.getElem?_append_right (by omega), hfl] at hu
          have hlt : i - m * 2 < 2 := by
            rcases Nat.lt_or_ge (i - m * 2) 2 with h6 | h6
            · exact h6
            · rw [List.getElem?_eq_none (by simpa [encS] using h6)] at hu; cases hu
          rcases Nat.lt_or_ge (i - m * 2) 1 with h6 | h6
          · have : i = m * 2 := by omega
            subst this
            simp [encS] at hu
            rw [h3, hu]
          · have : i = m * 2 + 1 := by omega
            subst this
            have e2 : m * 2 + 1 - m * 2 = 1 := by omega
            rw [e2] at hu
            simp [encS] at hu
            rw [h4, hu]
    obtain ⟨l, hl1, hl2⟩ := build len (Nat.le_refl _)
    exact ⟨x, len, cap, l, rfl, h1, h2, h3, hl1, hl2⟩

theorem lifted (os : Os) (started : os.Started) (H : Type) (enc : TypeId × Value → H) :
    ReturnsInHanded {} Try.checked os 3 .any (Rows.signRunsSpec.pre6 enc Try.prog Try.f3 Rows.signRunsRow.domain false) (Rows.signRunsSpec.post enc Try.prog Try.f3 false true false false) := by
  refine returnsInHanded_of_change_sized (C := Try.checked) own started (by kernel_rfl) Try.func3
    (ChangeSpec.witness6 (enc := enc) (C := Try.checked) false ⟨#[], #[.slice none 0 0], []⟩ 8 (by kernel_rfl) (by kernel_rfl) (by kernel_rfl) (by kernel_rfl)) ?_
  intro W base args ds gs before hval0 hW hcnd hsz0 _
  have hval : ∀ (j : Nat) t v, Try.f3.params[j]? = some t → args[j]? = some v → Value.okWide Try.prog W .any base t v := hval0
  have hW' := hW
  obtain ⟨p, q, hA0, hV, rfl, hfz, hnd⟩ := hW
  have hA : DataW.TrodAll enc Try.prog W 0 (fun _ => true) true Try.f3.params.toList args.toList ds p := hA0
  rw [Try.params3] at hA hval
  obtain ⟨v0, vs0, d0, ds0, p0, q0, hargs, rfl, rfl, h0, r0⟩ := trodAll_cons hA
  obtain ⟨rfl, rfl, rfl⟩ := trodAll_nil r0
  obtain rfl : args = #[v0] := by cases args; simp_all
  obtain ⟨rfl, rfl⟩ := trodVars_none hV
  have k0 := h0
  have lt0 : ∀ x ∈ p0, x.block < W.heap.size := by obtain ⟨m, hm⟩ := k0; exact DataW.trod_lt m _ _ _ hm
  have walk : Calls Try.prog 3 #[v0] W fun e W' => e = .returned (.bool true) ∧ Below W.heap.size W W' := by
    rcases opened Try.underlying22 (hval 0 22 v0 rfl rfl) h0 with rfl | ⟨x, len, cap, l, rfl, h1, h2, h3, h4, h5⟩
    · exact law_calls sound (fun _ => rfl) (Ready.nil X W) (.cons _ _ _ _ .nilSlice .nil) (law3 (l := []) .nil)
    · subst h4
      obtain ⟨φ', v, g1, _, g2, g3⟩ := (Ready.nil X W).slice h1 h2 h3 (k := 2) (cs := l.flatMap encS) (flatMap_length encS 2 (fun _ => rfl) l) (fun i u hu => ⟨u, h5 i u hu, by
        have hm := List.mem_of_getElem? hu
        rw [List.mem_flatMap] at hm
        obtain ⟨q, _, hq⟩ := hm
        simp [encS] at hq
        rcases hq with rfl | rfl <;> exact .int _ _⟩)
      exact law_calls sound (fun _ => rfl) g1 (.cons _ _ _ _ g2 .nil) (law3 g3)
  clear hA0 hval0 hsz0
  refine walk.mono fun e W' ⟨he, bel⟩ => ?_
  subst he
  exact ⟨_, rfl, _, _, _, [], _, [], hW', trodAll_mk1 (shut_bool Try.underlying4 _), (trodAll_cons_mk (Below.trod laidOut (by kernel_rfl) (of_decide_eq_true (by kernel_rfl)) k0 bel lt0) trodAll_mk0), rfl, bel.frame _, fun h => by cases h⟩
theorem over : Rows.signRunsRow.holds Try.pinned (OpenSpec.ofChange Rows.signRunsSpec) :=
  OpenClaim.holds_of_wide 3 Try.f3 rfl rfl rfl rfl rfl rfl rfl ⟨rfl, rfl, rfl, rfl, rfl⟩ rfl rfl rfl rfl rfl (by kernel_rfl) Try.func3 (by kernel_rfl)
    (of_decide_eq_true (by kernel_rfl)) (by unfold Func.isWrapper; first | (rw [if_pos (by decide +kernel)]; kernel_rfl) | (rw [if_neg (by decide +kernel)]; exact ⟨rfl, rfl⟩))
    (fun os started H enc _ => lifted os started H enc)
theorem proved : Rows.SignRunsSaid := over
end Go.Proofs.Ytndedkpcfjnecaa.signRuns
namespace Go.Proofs.Ytndedkpcfjnecaa
/-- The row, under a short name, for the claim. -/
theorem signRuns_holds : Rows.SignRunsSaid := signRuns.proved
end Go.Proofs.Ytndedkpcfjnecaa
#print axioms Go.Proofs.Ytndedkpcfjnecaa.signRuns_holds
