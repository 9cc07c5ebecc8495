import Derived.Test.YticllcglldbffaaDoorD
import Derived.Test.YticllcglldbffaaDoorD3
namespace Go.Proofs.YticllcglldbffaaDoor.Ab
open Go.Proofs
set_option maxRecDepth 100000
set_option maxHeartbeats 2000000
set_option linter.unusedSimpArgs false
set_option linter.unusedVariables false
def right (v : Int) : Bool := (decide (0 ≤ v) && decide (v ≤ 1114111) && (decide (v < 55296) || decide (57343 < v))) || (!(decide (0 ≤ v) && decide (v ≤ 1114111)) && (decide (1114240 ≤ v) && decide (v ≤ 1114367)))
theorem aV {α : Type} {l : List α} {i : Nat} {x : α} (h : l[i]? = some x) : l.take (i + 1) = l.take i ++ [x] := by rw [List.take_add_one, h]; rfl
variable {k : Nat → List Value → Option Value} (hk : ∀ f, f ≠ 105 → f ≠ 149 → ax k f)
include hk
theorem ai8 (v : Int) : PC (XK k) 73 [.c (.int .i64 v)] (.c (.bool (right v))) := by
  refine aI fun s => ?_
  refine atZ (hk _ (by decide) (by decide)) ?_
  (try (simp -implicitDefEqProofs (maxSteps := 2000000) (disch := first | omega | (simp only [ac, ae, ab]; first | done | omega)) only [push_cast, seval, arM, aqP])) <;> (repeat' ((first | apply ao | apply aj | apply am | apply al | apply an | apply ak | apply ai | apply ag | apply ah) <;> intro hc <;> try (simp -implicitDefEqProofs (maxSteps := 2000000) (disch := first | omega | (simp only [ac, ae, ab]; first | done | omega)) only [push_cast, seval, arM, aqP, hc])))
  all_goals exact aK (by (repeat first | assumption | exact af.refl _ | apply af.push | refine af.set ?_ (by first | omega | (simp only [ac, ae, ab]; omega) | (have h9 := af.size_le (by assumption); (try simp only [ac, ae, ab] at *); omega)) _ | refine af.drop ?_ (by first | omega | (simp only [ac, ae, ab]; omega) | (have h9 := af.size_le (by assumption); (try simp only [ac, ae, ab] at *); omega)) | refine af.trans ?_ (by assumption))) (by simp [right, *])
theorem Tc (v : Int) : PC (XK k) 46 [.c (.int .i64 v)] (.c (.bool (right v))) := by
  refine aI fun s => ?_
  refine asA (hk _ (by decide) (by decide)) ?_
  (try (simp -implicitDefEqProofs (maxSteps := 2000000) (disch := first | omega | (simp only [ac, ae, ab]; first | done | omega)) only [push_cast, seval, aoN, anM])) <;> (repeat' ((first | apply ao | apply aj | apply am | apply al | apply an | apply ak | apply ai | apply ag | apply ah) <;> intro hc <;> try (simp -implicitDefEqProofs (maxSteps := 2000000) (disch := first | omega | (simp only [ac, ae, ab]; first | done | omega)) only [push_cast, seval, aoN, anM, hc])))
  all_goals (refine aK (by (repeat first | assumption | exact af.refl _ | apply af.push | refine af.set ?_ (by first | omega | (simp only [ac, ae, ab]; omega) | (have h9 := af.size_le (by assumption); (try simp only [ac, ae, ab] at *); omega)) _ | refine af.drop ?_ (by first | omega | (simp only [ac, ae, ab]; omega) | (have h9 := af.size_le (by assumption); (try simp only [ac, ae, ab] at *); omega)) | refine af.trans ?_ (by assumption))) ?_; simp only [right]; rw [Bool.eq_iff_iff]; simp; omega)
omit hk in
theorem Gr.room {s0 s : VS} {te : Ty} {e m n N b sz : Nat} {ws cs zs : List AV} {k : AV → VS → Prop} (hg : s.get b = some (.own ⟨cs ++ zs, e, 0, 0, false⟩)) (hb : s0.size ≤ b) (hk : af s0 s) (hz : te.size = sz) (hc : cs.length = n * sz) (hl : (cs ++ zs).length = N * sz) (hw : ws.length = m * sz) (ho : ws.all ie = true) (hN : n + m ≤ N)
    (hK : ∀ s', s'.get b = some (.own ⟨cs ++ ws ++ zs.drop (m * sz), e, 0, 0, false⟩) → af s0 s' → s'.size = s.size → (∀ c, c ≠ b → s'.get c = s.get c) → k (.sl ⟨b, 0, none⟩ (n + m) (aY N)) s') : fC (aH te e m ws (.sl ⟨b, 0, none⟩ n (aY N)) s) k := by
  by_cases hm : m = 0
  · subst hm
    have hw0 : ws = [] := List.eq_nil_of_length_eq_zero (by omega)
    subst hw0
    have : aH te e 0 [] (.sl ⟨b, 0, none⟩ n (aY N)) s = some (.sl ⟨b, 0, none⟩ n (aY N), s) := by simp [aH]
    rw [this, nV]
    exact hK s (by simpa using hg) hk rfl fun _ _ => rfl
  · have h1 := VS.lt_of_get hg
    have hwl : n * sz + m * sz ≤ N * sz := by rw [← Nat.add_mul]; exact Nat.mul_le_mul_right _ hN
    have hwr : s.wr (Addr.fwd ⟨b, 0, none⟩ (n * te.size)) ws = some (s.set b (.own ⟨overA (cs ++ zs) (n * sz) ws, e, 0, 0, false⟩)) := by
      rw [Xr, Jj, hg, JP, hz, Nat.zero_add]
      exact if_pos ⟨rfl, by rw [hl, hw]; exact hwl, Nat.zero_le _, rfl, ho⟩
    have ha : aH te e m ws (.sl ⟨b, 0, none⟩ n (aY N)) s = some (.sl ⟨b, 0, none⟩ (n + m) (aY N), s.set b (.own ⟨overA (cs ++ zs) (n * sz) ws, e, 0, 0, false⟩)) := by
      simp only [aH, if_neg hm, dK, if_pos hN, hwr, Option.map_some]
    rw [ha, nV]
    refine hK _ ?_ (hk.set hb _) (ae _ _ _) fun c hne => bZ hne
    rw [ef rfl h1, xy hc, hw]
end Go.Proofs.YticllcglldbffaaDoor.Ab
