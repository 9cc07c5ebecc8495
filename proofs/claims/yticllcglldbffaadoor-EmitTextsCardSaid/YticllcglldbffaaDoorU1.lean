import Derived.Test.YticllcglldbffaaDoorG3
namespace Go.Proofs.YticllcglldbffaaDoor.Ab
open Go.Proofs
set_option maxRecDepth 100000
set_option maxHeartbeats 4000000
set_option linter.unusedSimpArgs false
set_option linter.unusedVariables false
set_option linter.unnecessarySimpa false
set_option linter.unusedSectionVars false
section
variable {k : Nat → List Value → Option Value} (hk : ∀ f, f ≠ 105 → f ≠ 149 → ax k f)
include hk
theorem R6 (s : List UInt8) (hl : s.length < 1000000) : PC (XK k) 117 [tx s] (.c (.int .i64 (a8 s).length)) := by
  refine aI fun st => ?_
  refine alJ (hk _ (by decide) (by decide)) ?_
  have hdl := eC s
  (try (simp -implicitDefEqProofs (maxSteps := 2000000) (disch := first | omega | (simp only [ac, ae, ab]; first | done | omega)) only [push_cast, seval, pQ, oD])) <;> (repeat' ((first | apply ao | apply aj | apply am | apply al | apply an | apply ak | apply ai | apply ag | apply ah) <;> intro hc <;> try (simp -implicitDefEqProofs (maxSteps := 2000000) (disch := first | omega | (simp only [ac, ae, ab]; first | done | omega)) only [push_cast, seval, pQ, oD, hc])))
  refine aM (fun m ρ s' => ∃ (p : Nat) (d : List Int), m = s.length - p ∧ p ≤ s.length ∧ a8 s = d ++ a8 (s.drop p) ∧ ρ.get 3 = .c (.int .i64 d.length) ∧ ρ.get 5 = .ptr ⟨st.size, 0, none⟩ ∧ s'.get st.size = some (.iter ⟨s.toArray⟩ p) ∧ af st s') s.length
    ⟨0, [], rfl, Nat.zero_le _, by simp, by (((try simp -implicitDefEqProofs only [aw, aq, au.get_set, ar, List.getD_cons_zero, List.getD_cons_succ, ↓reduceIte, reduceCtorEq, Nat.reduceEqDiff]); try (first | (with_reducible assumption) | (with_reducible rfl) | (congr 2 <;> omega) | rfl))), by (((try simp -implicitDefEqProofs only [aw, aq, au.get_set, ar, List.getD_cons_zero, List.getD_cons_succ, ↓reduceIte, reduceCtorEq, Nat.reduceEqDiff]); try (first | (with_reducible assumption) | (with_reducible rfl) | (congr 2 <;> omega) | rfl))), by (simp -implicitDefEqProofs (disch := first | omega | (simp only [ac, ae, ab]; first | done | omega)) only [eu, dN, bB, bZ, ef]), by (repeat first | assumption | exact af.refl _ | apply af.push | refine af.set ?_ (by first | omega | (simp only [ac, ae, ab]; omega) | (have h9 := af.size_le (by assumption); (try simp only [ac, ae, ab] at *); omega)) _ | refine af.drop ?_ (by first | omega | (simp only [ac, ae, ab]; omega) | (have h9 := af.size_le (by assumption); (try simp only [ac, ae, ab] at *); omega)) | refine af.trans ?_ (by assumption))⟩ ?_
  rintro m ρ s' ⟨p, d, rfl, hp, hd, g3, g5, j1, j2⟩
  have hsz := VS.lt_of_get j1
  have hdd := congrArg List.length hd
  rw [List.length_append] at hdd
  by_cases hc : p < s.length
  · have hne : s.drop p ≠ [] := fun e => by have := List.drop_eq_nil_iff.1 e; omega
    have hdc := pn s p hc
    have hos := bI hne
    rw [List.length_drop] at hos
    rw [br hne, List.drop_drop] at hd
    generalize (bN (aU (s.drop p)).1).toNat = r0 at *
    generalize (aU (s.drop p)).1 = v at *
    generalize (aU (s.drop p)).2 = n at *
    repeat' (first | ((first | apply ao | apply aj | apply am | apply al | apply an | apply ak | apply ai | apply ag | apply ah) <;> intro hc <;> (try (simp -implicitDefEqProofs (maxSteps := 2000000) (disch := first | omega | (simp only [ac, ae, ab]; first | done | omega)) only [push_cast, seval, pQ, oD, hc, g3, g5, j1, hdc])) <;> (try (exfalso; omega))) | (simp -implicitDefEqProofs (maxSteps := 2000000) (disch := first | omega | (simp only [ac, ae, ab]; first | done | omega)) only [push_cast, seval, pQ, oD, g3, g5, j1, hdc]))
    refine ⟨_ - (p + n), by omega, p + n, d ++ [v], rfl, by omega, by rw [hd]; simp, congrArg (fun z => AV.c (.int .i64 z)) (by simp), by (simp -implicitDefEqProofs (disch := first | omega | (simp only [ac, ae, ab]; first | done | omega)) only [eu, dN, bB, bZ, ef]), by (repeat first | assumption | exact af.refl _ | apply af.push | refine af.set ?_ (by first | omega | (simp only [ac, ae, ab]; omega) | (have h9 := af.size_le (by assumption); (try simp only [ac, ae, ab] at *); omega)) _ | refine af.drop ?_ (by first | omega | (simp only [ac, ae, ab]; omega) | (have h9 := af.size_le (by assumption); (try simp only [ac, ae, ab] at *); omega)) | refine af.trans ?_ (by assumption))⟩
  · obtain rfl : p = s.length := by omega
    rw [List.drop_eq_nil_of_le (Nat.le_refl _), dD, List.append_nil] at hd
    repeat' (first | ((first | apply ao | apply aj | apply am | apply al | apply an | apply ak | apply ai | apply ag | apply ah) <;> intro hc <;> (try (simp -implicitDefEqProofs (maxSteps := 2000000) (disch := first | omega | (simp only [ac, ae, ab]; first | done | omega)) only [push_cast, seval, pQ, oD, hc, g3, g5, j1, Nat.lt_irrefl])) <;> (try (exfalso; omega))) | (simp -implicitDefEqProofs (maxSteps := 2000000) (disch := first | omega | (simp only [ac, ae, ab]; first | done | omega)) only [push_cast, seval, pQ, oD, g3, g5, j1, Nat.lt_irrefl]))
    exact aD (by (repeat first | assumption | exact af.refl _ | apply af.push | refine af.set ?_ (by first | omega | (simp only [ac, ae, ab]; omega) | (have h9 := af.size_le (by assumption); (try simp only [ac, ae, ab] at *); omega)) _ | refine af.drop ?_ (by first | omega | (simp only [ac, ae, ab]; omega) | (have h9 := af.size_le (by assumption); (try simp only [ac, ae, ab] at *); omega)) | refine af.trans ?_ (by assumption))) (by rw [hd])
theorem Ji (s : List UInt8) (hl : s.length < 1000000) : PC (XK k) 93 [tx s] (LI (a8 s)) := by
  refine aI fun st => ?_
  refine au9 (hk _ (by decide) (by decide)) ?_
  have hdl := eC s
  have hroom : aO (a8 s).length 8 = true := (cp (by constructor <;> (try dsimp only) <;> omega))
  repeat' (first | ((first | apply ao | apply aj | apply am | apply al | apply an | apply ak | apply ai | apply ag | apply ah) <;> intro hc <;> (try (simp -implicitDefEqProofs (maxSteps := 2000000) (disch := first | omega | (simp only [ac, ae, ab]; first | done | omega)) only [push_cast, seval, qd, pW, hc, hroom])) <;> (try (exfalso; omega))) | refine ap (R6 hk s hl) ?_ | (simp -implicitDefEqProofs (maxSteps := 2000000) (disch := first | omega | (simp only [ac, ae, ab]; first | done | omega)) only [push_cast, seval, qd, pW, hroom]))
  have hdl2 : (a8 s).length < 1000000 := by omega
  refine aM (fun m ρ s' => ∃ (p : Nat) (d : List Int) (v : AV), m = s.length - p ∧ p ≤ s.length ∧ a8 s = d ++ a8 (s.drop p) ∧ ρ.get 0 = tx s ∧ ρ.get 3 = v ∧ ρ.get 10 = .ptr ⟨st.size + 1, 0, none⟩ ∧ s'.get (st.size + 1) = some (.iter ⟨s.toArray⟩ p) ∧ Gw st s' 3 1 v d.length (d.map (eI .i64)).flatten ∧ bR v ≠ some (st.size + 1) ∧ st.size + 1 < s'.size ∧ af st s') s.length
    ⟨0, [], _, rfl, Nat.zero_le _, by simp, by (((try simp -implicitDefEqProofs only [aw, aq, au.get_set, ar, List.getD_cons_zero, List.getD_cons_succ, ↓reduceIte, reduceCtorEq, Nat.reduceEqDiff]); try (first | (with_reducible assumption) | (with_reducible rfl) | (congr 2 <;> omega) | rfl))), by (((try simp -implicitDefEqProofs only [aw, aq, au.get_set, ar, List.getD_cons_zero, List.getD_cons_succ, ↓reduceIte, reduceCtorEq, Nat.reduceEqDiff]); try (first | (with_reducible assumption) | (with_reducible rfl) | (congr 2 <;> omega) | rfl))), by (((try simp -implicitDefEqProofs only [aw, aq, au.get_set, ar, List.getD_cons_zero, List.getD_cons_succ, ↓reduceIte, reduceCtorEq, Nat.reduceEqDiff]); try (first | (with_reducible assumption) | (with_reducible rfl) | (congr 2 <;> omega) | rfl))), by (simp -implicitDefEqProofs (disch := first | omega | (simp only [ac, ae, ab]; first | done | omega)) only [eu, dN, bB, bZ, ef]), by refine (((Gw.room st.size 0 (a8 s).length [] _ _ (bB rfl) (Nat.le_refl _) (by simp) ?_ (Nat.zero_le _)).push _).cast rfl rfl); simp [uf], by simp [bR], by simp only [ac]; omega, by (repeat first | assumption | exact af.refl _ | apply af.push | refine af.set ?_ (by first | omega | (simp only [ac, ae, ab]; omega) | (have h9 := af.size_le (by assumption); (try simp only [ac, ae, ab] at *); omega)) _ | refine af.drop ?_ (by first | omega | (simp only [ac, ae, ab]; omega) | (have h9 := af.size_le (by assumption); (try simp only [ac, ae, ab] at *); omega)) | refine af.trans ?_ (by assumption))⟩ ?_
  rintro m ρ s' ⟨p, d, v, rfl, hp, hd, g0, g3, g10, j1, j2, j3, j4, j5⟩
  have hsz := VS.lt_of_get j1
  have hdd := congrArg List.length hd
  rw [List.length_append] at hdd
  by_cases hc : p < s.length
  · have hne : s.drop p ≠ [] := fun e => by have := List.drop_eq_nil_iff.1 e; omega
    have hdc := pn s p hc
    have hos := bI hne
    rw [List.length_drop] at hos
    have hvk := H3 hk (s.drop p) hne (by rw [List.length_drop]; omega)
    have hrn : ((bN (aU (s.drop p)).1).toNat : Int) = bN (aU (s.drop p)).1 := by
      have : 0 ≤ (aU (s.drop p)).1 := by
        rcases d7 _ hne with ⟨v, r, h0, _, _, _, ho⟩ | ⟨a, l, _, ha, _, ho⟩
        · rw [ho]; exact h0
        · rw [ho]; simp only; omega
      unfold bN
      split <;> omega
    rw [← hrn] at hvk
    rw [br hne, List.drop_drop] at hd
    have htk : List.take s.length s = s := List.take_length
    generalize (bN (aU (s.drop p)).1).toNat = r0 at *
    generalize (aU (s.drop p)).1 = w at *
    generalize (aU (s.drop p)).2 = n at *
    repeat' (first | ((first | apply ao | apply aj | apply am | apply al | apply an | apply ak | apply ai | apply ag | apply ah) <;> intro hc <;> (try (simp -implicitDefEqProofs (maxSteps := 2000000) (disch := first | omega | (simp only [ac, ae, ab]; first | done | omega)) only [push_cast, seval, qd, pW, hc, g0, g3, g10, j1, hdc, htk])) <;> (try (exfalso; omega))) | refine ap (hvk) ?_ | (simp -implicitDefEqProofs (maxSteps := 2000000) (disch := first | omega | (simp only [ac, ae, ab]; first | done | omega)) only [push_cast, seval, qd, pW, g0, g3, g10, j1, hdc, htk]))
    refine Gw.step (sz := 1) ((j2.set j3 _).push _) (by (repeat first | assumption | exact af.refl _ | apply af.push | refine af.set ?_ (by first | omega | (simp only [ac, ae, ab]; omega) | (have h9 := af.size_le (by assumption); (try simp only [ac, ae, ab] at *); omega)) _ | refine af.drop ?_ (by first | omega | (simp only [ac, ae, ab]; omega) | (have h9 := af.size_le (by assumption); (try simp only [ac, ae, ab] at *); omega)) | refine af.trans ?_ (by assumption))) rfl rfl rfl (cp (by constructor <;> (try dsimp only) <;> omega)) ?_
    intro v2 s2 hg hbt hbl hkp
    (try (simp -implicitDefEqProofs (maxSteps := 2000000) (disch := first | omega | (simp only [ac, ae, ab]; first | done | omega)) only [push_cast, seval, qd, pW, g0, g3, g10])) <;> (repeat' ((first | apply ao | apply aj | apply am | apply al | apply an | apply ak | apply ai | apply ag | apply ah) <;> intro hc <;> try (simp -implicitDefEqProofs (maxSteps := 2000000) (disch := first | omega | (simp only [ac, ae, ab]; first | done | omega)) only [push_cast, seval, qd, pW, hc, g0, g3, g10])))
    refine ⟨_ - (p + n), by omega, p + n, d ++ [w], v2, rfl, by omega, by rw [hd]; simp, rfl, ?_, hg.cast (by simp) (by simp [eI]), ?_, ?_, hkp⟩
    · rw [(hbt.2 (st.size + 1) (by simp only [ac, ae]; omega) j3).1]
      (simp -implicitDefEqProofs (disch := first | omega | (simp only [ac, ae, ab]; first | done | omega)) only [eu, dN, bB, bZ, ef])
    · exact fun e => j3 (hbl _ (by simp only [ac, ae]; omega) e)
    · have := hbt.1
      simp only [ac, ae] at this
      omega
  · obtain rfl : p = s.length := by omega
    rw [List.drop_eq_nil_of_le (Nat.le_refl _), dD, List.append_nil] at hd
    repeat' (first | ((first | apply ao | apply aj | apply am | apply al | apply an | apply ak | apply ai | apply ag | apply ah) <;> intro hc <;> (try (simp -implicitDefEqProofs (maxSteps := 2000000) (disch := first | omega | (simp only [ac, ae, ab]; first | done | omega)) only [push_cast, seval, qd, pW, hc, g0, g3, g10, j1, Nat.lt_irrefl])) <;> (try (exfalso; omega))) | (simp -implicitDefEqProofs (maxSteps := 2000000) (disch := first | omega | (simp only [ac, ae, ab]; first | done | omega)) only [push_cast, seval, qd, pW, g0, g3, g10, j1, Nat.lt_irrefl]))
    rw [hd]
    exact j2.outm (f := eI .i64) j5 (fun _ => rfl) (He .i64) (by omega)
end
end Go.Proofs.YticllcglldbffaaDoor.Ab
