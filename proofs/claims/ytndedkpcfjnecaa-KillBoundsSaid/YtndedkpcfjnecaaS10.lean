/- What KillBounds is handed, read. -/
import Derived.Test.YtndedkpcfjnecaaS9
namespace Go.Proofs.Ytndedkpcfjnecaa.Ab
open Go.Proofs
set_option maxRecDepth 100000
set_option linter.unusedSimpArgs false
set_option linter.unusedVariables false
theorem lists_of {s : St} {l : List (List (Int × Int))} {v : Value} (h : (TD.slice (.slice signD)).Enc s l [v]) : ListsV s v l := by
  rcases h with ⟨h1, rfl⟩ | ⟨a, cap, cells, h1, ⟨h2, hcap⟩, h3⟩
  · cases h1
    exact ⟨[], .nil, fun i c hc => by simp at hc⟩
  · cases h1
    refine ⟨cells, .row a _ cap cells h2.rd (.inl h2.1) hcap, fun i c hc => ?_⟩
    have g2 := h3 i c hc
    have hl := TD.Enc.length (.slice signD) _ _ g2
    match hq : (cells.drop (i * (TD.slice signD).size)).take (TD.slice signD).size, hl with
    | [u], _ =>
      rw [hq] at g2
      refine ⟨u, ?_, signs_of g2⟩
      have := congrArg (fun l : List Value => l[0]?) hq
      simp only [List.getElem?_take, List.getElem?_drop] at this
      simpa [TD.size] using this
theorem u8_wf {x : Int} (h : (Lit.int .u8 x).wf = true) : 0 ≤ x ∧ x ≤ 255 := by
  simp [Lit.wf, IntKind.min, IntKind.max, IntKind.signed, IntKind.bits] at h
  omega
theorem u8_of {s : St} {l : List Int} {v : Value} (h : (TD.slice (.int .u8)).Enc s l [v]) : Sl s 5 1 v l.length (l.map (.int .u8)) ∧ ∀ x ∈ l, 0 ≤ x ∧ x ≤ 255 := by
  obtain ⟨h1, h2⟩ := enc_ints h
  refine ⟨h1.sl, fun x hx => ?_⟩
  exact u8_wf (h2 x hx)
end Go.Proofs.Ytndedkpcfjnecaa.Ab
