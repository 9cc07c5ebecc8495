/- A law's arguments in the evaluator's store; what its answer says of the machine. -/
import Derived.Test.YtndedkpcfjnecaaA20
import Derived.Below
import Derived.WideShapes
set_option linter.unusedSimpArgs false
set_option linter.unusedVariables false
namespace Go.Proofs.Ytndedkpcfjnecaa.Ab
open Go.RowKit

def Phi.add (φ : Phi) (b : Nat) (l : Loc) : Phi := fun b' e => if b' = b ∧ e = 0 then some l else φ b' e
theorem Ready.push {X : Prg} {φ : Phi} {s : St} {w : World} (h : Ready X φ s w) (l : Loc) (hl : l.c < w.heap.size) (cs : List Value) (hcs : ∀ i v, cs[i]? = some v → ∃ v', w.cell? ⟨l.c, l.off + i, none⟩ = some v' ∧ VRel φ v v') :
    Ready X (Phi.add φ s.size l) (s.push (.ro cs)) w ∧ φ.le (Phi.add φ s.size l) := by
  have hle : φ.le (Phi.add φ s.size l) := by
    intro b e l' hb
    unfold Phi.add
    rw [if_neg]
    · exact hb
    · rintro ⟨rfl, rfl⟩
      rw [h.fresh _ _ (Nat.le_refl _)] at hb; cases hb
  have split : ∀ b e l', Phi.add φ s.size l b e = some l' → (b = s.size ∧ e = 0 ∧ l' = l) ∨ (φ b e = some l' ∧ b < s.size) := by
    intro b e l' hb
    unfold Phi.add at hb
    split at hb
    · rename_i hc; cases hb; exact .inl ⟨hc.1, hc.2, rfl⟩
    · refine .inr ⟨hb, ?_⟩
      rcases Nat.lt_or_ge b s.size with h1 | h1
      · exact h1
      · rw [h.fresh _ _ h1] at hb; cases hb
  have hget : ∀ b, b < s.size → (s.push (.ro cs)).get b = s.get b := fun b hb => by rw [St.get_push, if_neg (by omega)]
  have hnew : (s.push (.ro cs)).get s.size = some (.ro cs) := by rw [St.get_push, if_pos rfl]
  have hro : ∀ b e l', Phi.add φ s.size l b e = some l' → isMut ((s.push (.ro cs)).get b) = false := by
    intro b e l' hb
    rcases split b e l' hb with ⟨rfl, rfl, rfl⟩ | ⟨hb, hlt⟩
    · rw [hnew]; rfl
    · rw [hget b hlt]; exact h.ro b e l' hb
  refine ⟨⟨⟨?_, ?_, ?_⟩, hro, ?_, h.glob.mono hle⟩, hle⟩
  · intro b e l' hb o ho
    rcases split b e l' hb with ⟨rfl, rfl, rfl⟩ | ⟨hb, hlt⟩
    · rw [hnew] at ho; cases ho
      intro _ i v hv
      obtain ⟨v', h1, h2⟩ := hcs i v hv
      exact ⟨v', h1, h2.mono hle⟩
    · rw [hget b hlt] at ho
      exact (h.rel.obj b e l' hb o ho).world hle rfl
  · intro b e l' hb
    rcases split b e l' hb with ⟨rfl, rfl, rfl⟩ | ⟨hb, hlt⟩
    · exact hl
    · exact h.rel.lt b e l' hb
  · intro b e l1 b' e' l2 hb hb' hne hm
    rw [hro b e l1 hb] at hm; cases hm
  · intro b e hb
    unfold Phi.add
    simp only [St.size_push] at hb
    rw [if_neg (by rintro ⟨rfl, _⟩; omega)]
    exact h.fresh b e (by omega)
theorem RoKeep.of_push (s : St) (o : AObj) : RoKeep s (s.push o) := RoKeep.push s o
/-- A slice of the machine's, read into a row of the evaluator's. -/
theorem Ready.slice {X : Prg} {φ : Phi} {s : St} {w : World} (h : Ready X φ s w) {x : Addr} {len cap k : Nat} (hsp : x.spot = none) (hx : x.block < w.heap.size) (hc : len ≤ cap) {cs : List Value} (hl : cs.length = len * k)
    (hcs : ∀ i v, cs[i]? = some v → ∃ v', w.cell? (x.add i) = some v' ∧ VRel φ v v') :
    ∃ φ' v, Ready X φ' (s.push (.ro cs)) w ∧ φ.le φ' ∧ VRel φ' v (.slice (some x) len cap) ∧ RoV (s.push (.ro cs)) k v len cs := by
  have hadd : ∀ i, x.add i = ⟨x.block, x.off + i, none⟩ := by
    intro i
    unfold Addr.add
    split
    · rename_i h0; subst h0; cases x; simp_all
    · rfl
  obtain ⟨h1, h2⟩ := h.push ⟨x.block, x.off, cap * k, k⟩ hx cs (by simpa only [hadd] using hcs)
  refine ⟨_, .slice (some ⟨s.size, 0, none⟩) len (capO len), h1, h2, ?_, ?_⟩
  · have hp : Phi.add φ s.size ⟨x.block, x.off, cap * k, k⟩ s.size 0 = some ⟨x.block, x.off, cap * k, k⟩ := by simp [Phi.add]
    have := VRel.slice (φ := Phi.add φ s.size ⟨x.block, x.off, cap * k, k⟩) ⟨s.size, 0, none⟩ ⟨x.block, x.off, cap * k, k⟩ len (capO len) ⟨x.block, x.off, none⟩ cap hp (.inl (by simp)) hc (by simp only [capO]; omega) (by simp only [capO]; omega) (fun _ _ => Nat.le_refl _)
    have hxe : x = ⟨x.block, x.off, none⟩ := by cases x; simp_all
    rw [← hxe] at this
    exact this
  · refine .row _ _ _ _ ⟨⟨cs, by rw [St.get_push, if_pos rfl]⟩, ?_⟩ (by simp only [capO]; omega)
    unfold St.rd
    rw [St.get_push, if_pos rfl]
    refine (if_pos ⟨rfl, by simp only [Nat.zero_add]; exact Nat.le_of_eq hl.symm⟩).trans ?_
    rw [List.drop_zero, List.take_of_length_le (Nat.le_of_eq hl)]

theorem below_of_step {φ φ' : Phi} {s s' : St} {w w' : World} (hro : ∀ b e l, φ b e = some l → isMut (s.get b) = false) (st : Step φ φ' s s' w w') : Below w.heap.size w w' :=
  ⟨st.os, st.tape, st.output, st.wsize, fun k hk => st.frm k hk fun b e l hb _ => hro b e l hb⟩
theorem law_calls {X : Prg} {P : Program} (H : SoundF X P) {f : Nat} {args : List Value} {args' : Array Value} {φ : Phi} {s : St} {w : World} (hr : Ready X φ s w) (ha : VRels φ args args'.toList) (hc : WC X f args s fun r _ => r = .bool true) :
    Calls P f args' w fun e w' => e = .returned (.bool true) ∧ Below w.heap.size w w' := by
  obtain ⟨n, v, s', h1, rfl⟩ := hc
  refine (acall_sound H h1 ha hr.glob hr.rel (fun b e h2 _ => hr.fresh b e h2)).mono ?_
  rintro e w' ⟨φ', v', rfl, h2, _, h3⟩
  cases h2
  exact ⟨rfl, below_of_step hr.ro h3⟩

/-! What a slice that is handed in tells. -/
theorem slice_there {P : Program} {w : World} {r : Reach} {base : Nat} {t e : TypeId} {x : Addr} {len cap : Nat} (ht : P.underlying t = some (.slice e)) (h : Value.okWide P w r base t (.slice (some x) len cap)) : x.spot = none ∧ x.block < w.heap.size ∧ len ≤ cap := by
  simp only [Value.okWide, ht, Cell.okWide, Cell.ok] at h
  obtain ⟨h1, h2, h3⟩ := h
  obtain ⟨_, h4, row, cells, h5, _⟩ := h3
  refine ⟨h4, ?_, h1⟩
  unfold World.shape? at h5
  rcases Nat.lt_or_ge x.block w.heap.size with h6 | h6
  · exact h6
  · rw [Array.getElem?_eq_none h6] at h5; cases h5
end Go.Proofs.Ytndedkpcfjnecaa.Ab
