/- What a row hands in: package variables that are laid, arguments. -/
import Derived.Test.YtndedkpcfjnecaaA24
import Derived.FnData
import Derived.OpenShut
import Derived.MakeChecks
import Derived.Carry
import Derived.WalkKit
import Derived.ProofKit
import Derived.ChangeOld
import Derived.SizedLaws
import Derived.Deep.Slices
import Derived.Deep.Fields
import Derived.ChangeSame
set_option linter.unusedSimpArgs false
set_option linter.unusedVariables false
namespace Go.Proofs.Ytndedkpcfjnecaa.Ab
open Go.RowKit Go.Deep

/-- The cells of a laid array of whole numbers. -/
theorem cells_of_array {H : Type} {enc : TypeId × Value → H} {P : Program} {W : World} {base : Nat} {spare : Nat → Bool} {held : Bool} {nm : String} {g t n e fuel : Nat} {k : IntKind} {cs : Array Value} {l : List Value} {D : List (DataW H)} {pl : List MemPlace} (hg : P.globalNamed nm = some g) (hv : W.var? P nm = some cs)
    (ht : P.underlying t = some (.array n e)) (he : P.underlying e = some (.int k)) (hc : P.cellsOf e = 1) (hd : DataW.trod enc P W base spare held fuel t cs.toList = some (.agg D, pl)) (hD : D = l.map fun v => match v with | .int k n => .lit (.int k n) | _ => .nil) :
    (0 < n → g < W.heap.size) ∧ ∀ i v, l[i]? = some v → W.cell? ⟨g, i, none⟩ = some v := by
  obtain ⟨xs, m, _, hx, hlen, hn, hel⟩ := DataW.trod_array ht hd
  simp only [Prod.mk.injEq, DataW.agg.injEq] at hx
  have at_ : ∀ i, i < n → ∃ q, cs[i]? = some (.int k q) ∧ D[i]? = some (.lit (.int k q)) := by
    intro i hi
    have h1 := hel i hi
    rw [hc, Nat.mul_one] at h1
    obtain ⟨y, hy⟩ : ∃ y, xs[i]? = some y := ⟨_, List.getElem?_eq_getElem (by omega)⟩
    rw [hy] at h1
    obtain ⟨q, e1, e2, _⟩ := DataW.trod_int he h1
    refine ⟨q, ?_, ?_⟩
    · have : cs.toList[i]? = some (.int k q) := by
        have h2 := congrArg (fun l => l[0]?) e1
        simpa [List.getElem?_take, List.getElem?_drop] using h2
      simpa using this
    · rw [hx.1, List.getElem?_map, hy, e2]; rfl
  have hcell := World.var?_cell hg hv
  refine ⟨fun hn0 => ?_, fun i v hi => ?_⟩
  · obtain ⟨q, h1, _⟩ := at_ 0 hn0
    have h2 := hcell 0
    rw [h1] at h2
    unfold World.cell? at h2
    rcases Nat.lt_or_ge g W.heap.size with h3 | h3
    · exact h3
    · simp [Array.getElem?_eq_none h3] at h2
  · have hil : i < n := by
      have := congrArg List.length hx.1
      rw [hD] at this
      simp only [List.length_map] at this
      have h2 := (List.getElem?_eq_some_iff.1 hi).1
      omega
    obtain ⟨q, h1, h2⟩ := at_ i hil
    rw [hcell i, h1]
    rw [hD, List.getElem?_map, hi] at h2
    simp only [Option.map_some, Option.some.injEq] at h2
    cases v <;> simp_all
theorem laidIn_cons {p : Nat × List Value} {l : List (Nat × List Value)} {W : World} (h1 : p.1 < W.heap.size) (h2 : ∀ i v, p.2[i]? = some v → W.cell? ⟨p.1, i, none⟩ = some v) (h : LaidIn l W) : LaidIn (p :: l) W := by
  intro q hq
  rcases List.mem_cons.1 hq with rfl | hq
  · exact ⟨h1, h2⟩
  · exact h q hq
theorem laidIn_nil {W : World} : LaidIn [] W := fun q hq => by cases hq
theorem laidIn_mono {l m : List (Nat × List Value)} {W : World} (h : LaidIn m W) (hs : ∀ p ∈ l, p ∈ m) : LaidIn l W := fun p hp => h p (hs p hp)
end Go.Proofs.Ytndedkpcfjnecaa.Ab
