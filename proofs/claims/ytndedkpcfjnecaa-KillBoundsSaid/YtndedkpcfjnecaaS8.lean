/- What kill's laws are handed, read. -/
import Derived.Test.YtndedkpcfjnecaaS7
namespace Go.Proofs.Ytndedkpcfjnecaa.Ab
open Go.Proofs
set_option maxRecDepth 100000
set_option linter.unusedSimpArgs false
set_option linter.unusedVariables false
@[reducible] def signD : TD := .more (.int .i64) (.one (.int .i64))
@[reducible] def callD : TD := .more (.int .i64) (.one (.slice signD))
theorem signs_of {s : St} {l : List (Int × Int)} {u : Value} (h : (TD.slice signD).Enc s l [u]) : SignsV s u l :=
  (enc_flat (e := signD) encS (fun _ => True) (by
    rintro ⟨a, b⟩ cs ⟨c1, c2, rfl, ⟨rfl, _⟩, ⟨rfl, _⟩⟩
    exact ⟨rfl, trivial⟩) h).1.sl
theorem calls_of {s : St} {l : List (Int × List (Int × Int))} {v : Value} (h : (TD.slice callD).Enc s l [v]) : CallsV s v l := by
  rcases h with ⟨h1, rfl⟩ | ⟨a, cap, cells, h1, ⟨h2, hcap⟩, h3⟩
  · cases h1
    exact ⟨[], .nil, fun i c hc => by simp at hc⟩
  · cases h1
    refine ⟨cells, .row a _ cap cells h2.rd (.inl h2.1) hcap, fun i c hc => ?_⟩
    obtain ⟨c1, c2, e, ⟨rfl, _⟩, g2⟩ := h3 i c hc
    have hl := TD.Enc.length (.slice signD) _ _ g2
    match c2, hl with
    | [u], _ =>
      refine ⟨u, ?_, ?_, signs_of g2⟩
      · have := congrArg (fun l : List Value => l[0]?) e
        simp only [List.getElem?_take, List.getElem?_drop] at this
        exact this
      · have := congrArg (fun l : List Value => l[1]?) e
        simp only [List.getElem?_take, List.getElem?_drop] at this
        exact this
def awl : List Nat := [13]
theorem aw1 : awk gsize (XK fun _ _ => none) 13 = true := by kernel_rfl
theorem knows_aw : Knows Try.prog laid (knL awl) := knows_more (X0 := X0) (soundK (k := fun _ _ => none) (fun _ _ _ h => by cases h)) laidW fun f hf => by
  simp only [awl, List.mem_cons, List.not_mem_nil, or_false] at hf
  subst hf
  exact aw1
theorem sound : SoundF (XK (knL awl)) Try.prog := soundK knows_aw
end Go.Proofs.Ytndedkpcfjnecaa.Ab
