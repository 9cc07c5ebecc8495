import Derived.Test.YticllcglldbffaaDoorE6
namespace Go.Proofs.YticllcglldbffaaDoor.Ab
open Go.Proofs
set_option maxRecDepth 100000
set_option maxHeartbeats 4000000
set_option linter.unusedSimpArgs false
set_option linter.unusedVariables false
set_option linter.unnecessarySimpa false
set_option linter.unusedSectionVars false
theorem nC {o : Ot} (h : aW o = true) : (aL o).length ≤ o.2.2.2.length + 20 := by
  by_cases h0 : o.1 = 0
  · unfold aL
    rw [if_pos h0]
    omega
  · obtain ⟨kd, n, m, t⟩ := o
    rw [jx h0] at h
    unfold aL kJ aZ
    have d1 := fun h0 h1 => (dy (n := n) h0 h1).2.1
    have d2 := fun h0 h1 => (dy (n := m) h0 h1).2.1
    by_cases k1 : kd = 1
    · subst k1
      have := d1 (by omega) (by omega)
      have := d2 (by omega) (by omega)
      simp
      omega
    · (repeat' split) <;> simp <;> omega
theorem oY {l : List Ot} {c : Nat} (h : l.all aW = true) (hc : ∀ o ∈ l, o.2.2.2.length ≤ c) : (bd l).length ≤ l.length * (c + 20) := by
  induction l with
  | nil => simp [bd]
  | cons o l ih =>
    rw [List.all_cons, Bool.and_eq_true] at h
    have h1 := nC h.1
    have h2 := hc o (by simp)
    have h3 := ih h.2 fun x hx => hc x (by simp [hx])
    rw [dv, List.length_append, List.length_cons, Nat.succ_mul]
    omega
section
variable {k : Nat → List Value → Option Value} (hk : ∀ f, f ≠ 105 → f ≠ 149 → ax k f)
include hk
theorem Zz (l : List Ot) (hl : l.length ≤ 100000) (ht : ∀ o ∈ l, o.2.2.2.length ≤ 100000) : PC (XK k) 23 [LO l] (if l.all aW = true then .tup [tx (bd l), .c (.int .i64 0)] else .tup [tx [], .c (.int .i64 2)]) := by
  refine aI fun st => ?_
  refine atF (hk _ (by decide) (by decide)) ?_
  repeat' (first | ((first | apply ao | apply aj | apply am | apply al | apply an | apply ak | apply ai | apply ag | apply ah) <;> intro hc <;> (try (simp -implicitDefEqProofs (maxSteps := 2000000) (disch := first | omega | (simp only [ac, ae, ab]; first | done | omega)) only [push_cast, seval, gu, gz, gC, gl, hc])) <;> (try (exfalso; omega))) | (simp -implicitDefEqProofs (maxSteps := 2000000) (disch := first | omega | (simp only [ac, ae, ab]; first | done | omega)) only [push_cast, seval, gu, gz, gC, gl]))
  refine aM (fun m ρ s' => ∃ i : Nat, m = l.length - i ∧ i ≤ l.length ∧ ρ.get 0 = LO l ∧ ρ.get 9 = LO l ∧ ρ.get 10 = .c (.int .i64 l.length) ∧ ρ.get 11 = .c (.int .i64 i) ∧ ((l.take i).all aW = true) ∧ (af st s')) (l.length) ⟨0, rfl, Nat.zero_le _, by (((try simp -implicitDefEqProofs only [aw, aq, au.get_set, ar, List.getD_cons_zero, List.getD_cons_succ, ↓reduceIte, reduceCtorEq, Nat.reduceEqDiff]); try (first | (with_reducible assumption) | (with_reducible rfl) | (congr 2 <;> omega) | rfl))), by (((try simp -implicitDefEqProofs only [aw, aq, au.get_set, ar, List.getD_cons_zero, List.getD_cons_succ, ↓reduceIte, reduceCtorEq, Nat.reduceEqDiff]); try (first | (with_reducible assumption) | (with_reducible rfl) | (congr 2 <;> omega) | rfl))), by (((try simp -implicitDefEqProofs only [aw, aq, au.get_set, ar, List.getD_cons_zero, List.getD_cons_succ, ↓reduceIte, reduceCtorEq, Nat.reduceEqDiff]); try (first | (with_reducible assumption) | (with_reducible rfl) | (congr 2 <;> omega) | rfl))), by (((try simp -implicitDefEqProofs only [aw, aq, au.get_set, ar, List.getD_cons_zero, List.getD_cons_succ, ↓reduceIte, reduceCtorEq, Nat.reduceEqDiff]); try (first | (with_reducible assumption) | (with_reducible rfl) | (congr 2 <;> omega) | rfl))), rfl, by (repeat first | assumption | exact af.refl _ | apply af.push | refine af.set ?_ (by first | omega | (simp only [ac, ae, ab]; omega) | (have h9 := af.size_le (by assumption); (try simp only [ac, ae, ab] at *); omega)) _ | refine af.drop ?_ (by first | omega | (simp only [ac, ae, ab]; omega) | (have h9 := af.size_le (by assumption); (try simp only [ac, ae, ab] at *); omega)) | refine af.trans ?_ (by assumption))⟩ ?_
  rintro m ρ s' ⟨i, rfl, hi, g0, g9, g10, g11, j1, j2⟩
  by_cases c1 : i < l.length
  · have he := List.getElem?_eq_getElem c1
    have hm := ht _ (List.getElem_mem c1)
    generalize l[i] = o at he hm
    have w := ug hk o (by omega)
    cases hmo : aW o with
    | true =>
      rw [hmo] at w
      repeat' (first | ((first | apply ao | apply aj | apply am | apply al | apply an | apply ak | apply ai | apply ag | apply ah) <;> intro hc <;> (try (simp -implicitDefEqProofs (maxSteps := 2000000) (disch := first | omega | (simp only [ac, ae, ab]; first | done | omega)) only [push_cast, seval, gu, gz, gC, gl, hc, g0, g9, g10, g11, he, eO])) <;> (try (exfalso; omega))) | refine ap (w) ?_ | (simp -implicitDefEqProofs (maxSteps := 2000000) (disch := first | omega | (simp only [ac, ae, ab]; first | done | omega)) only [push_cast, seval, gu, gz, gC, gl, g0, g9, g10, g11, he, eO]))
      all_goals (try (exfalso; omega))
      refine ⟨_ - (i + 1), by omega, i + 1, rfl, by omega, congrArg (fun z => AV.c (.int .i64 z)) (by omega), ?_, by (repeat first | assumption | exact af.refl _ | apply af.push | refine af.set ?_ (by first | omega | (simp only [ac, ae, ab]; omega) | (have h9 := af.size_le (by assumption); (try simp only [ac, ae, ab] at *); omega)) _ | refine af.drop ?_ (by first | omega | (simp only [ac, ae, ab]; omega) | (have h9 := af.size_le (by assumption); (try simp only [ac, ae, ab] at *); omega)) | refine af.trans ?_ (by assumption))⟩
      rw [aV he, List.all_append, j1]
      simp [hmo]
    | false =>
      rw [hmo] at w
      have hna : l.all aW = false := by
        rw [List.all_eq_false]
        exact ⟨o, List.mem_of_getElem? he, by rw [hmo]; decide⟩
      rw [hna]
      repeat' (first | ((first | apply ao | apply aj | apply am | apply al | apply an | apply ak | apply ai | apply ag | apply ah) <;> intro hc <;> (try (simp -implicitDefEqProofs (maxSteps := 2000000) (disch := first | omega | (simp only [ac, ae, ab]; first | done | omega)) only [push_cast, seval, gu, gz, gC, gl, hc, g0, g9, g10, g11, he, eO])) <;> (try (exfalso; omega))) | refine ap (w) ?_ | (simp -implicitDefEqProofs (maxSteps := 2000000) (disch := first | omega | (simp only [ac, ae, ab]; first | done | omega)) only [push_cast, seval, gu, gz, gC, gl, g0, g9, g10, g11, he, eO]))
      all_goals (try (exfalso; omega))
      exact ⟨by (repeat first | assumption | exact af.refl _ | apply af.push | refine af.set ?_ (by first | omega | (simp only [ac, ae, ab]; omega) | (have h9 := af.size_le (by assumption); (try simp only [ac, ae, ab] at *); omega)) _ | refine af.drop ?_ (by first | omega | (simp only [ac, ae, ab]; omega) | (have h9 := af.size_le (by assumption); (try simp only [ac, ae, ab] at *); omega)) | refine af.trans ?_ (by assumption)), Se.firm (az.tup (all_cons (az.c _) (all_cons (az.c _) all_nil)))⟩
  · have hi2 : i = l.length := by omega
    subst hi2
    rw [List.take_length] at j1
    rw [if_pos j1]
    repeat' (first | ((first | apply ao | apply aj | apply am | apply al | apply an | apply ak | apply ai | apply ag | apply ah) <;> intro hc <;> (try (simp -implicitDefEqProofs (maxSteps := 2000000) (disch := first | omega | (simp only [ac, ae, ab]; first | done | omega)) only [push_cast, seval, gu, gz, gC, gl, hc, g0, g9, g10, g11])) <;> (try (exfalso; omega))) | (simp -implicitDefEqProofs (maxSteps := 2000000) (disch := first | omega | (simp only [ac, ae, ab]; first | done | omega)) only [push_cast, seval, gu, gz, gC, gl, g0, g9, g10, g11]))
    all_goals (try (exfalso; omega))
    have hall := j1
    have hks := j2
    have htl := fun i => oY (l := l.take i) (c := 100000) (by rw [List.all_eq_true] at hall ⊢; exact fun o ho => hall o (List.mem_of_mem_take ho)) (fun o ho => ht o (List.mem_of_mem_take ho))
    clear j1 j2
    obtain ⟨s1, hs1⟩ : ∃ s1, s1 = s' := ⟨_, rfl⟩
    rw [← hs1] at hks ⊢
    have hz := hks.1
    refine aM (fun m ρ s' => ∃ i : Nat, m = l.length - i ∧ i ≤ l.length ∧ ρ.get 6 = .ptr ⟨s1.size, 0, none⟩ ∧ ρ.get 19 = LO l ∧ ρ.get 20 = .c (.int .i64 l.length) ∧ ρ.get 21 = .c (.int .i64 i) ∧ (Bd false st s' s1.size (bd (l.take i))) ∧ (af st s')) (l.length) ⟨0, rfl, Nat.zero_le _, by (((try simp -implicitDefEqProofs only [aw, aq, au.get_set, ar, List.getD_cons_zero, List.getD_cons_succ, ↓reduceIte, reduceCtorEq, Nat.reduceEqDiff]); try (first | (with_reducible assumption) | (with_reducible rfl) | (congr 2 <;> omega) | rfl))), by (((try simp -implicitDefEqProofs only [aw, aq, au.get_set, ar, List.getD_cons_zero, List.getD_cons_succ, ↓reduceIte, reduceCtorEq, Nat.reduceEqDiff]); try (first | (with_reducible assumption) | (with_reducible rfl) | (congr 2 <;> omega) | rfl))), by (((try simp -implicitDefEqProofs only [aw, aq, au.get_set, ar, List.getD_cons_zero, List.getD_cons_succ, ↓reduceIte, reduceCtorEq, Nat.reduceEqDiff]); try (first | (with_reducible assumption) | (with_reducible rfl) | (congr 2 <;> omega) | rfl))), by (((try simp -implicitDefEqProofs only [aw, aq, au.get_set, ar, List.getD_cons_zero, List.getD_cons_succ, ↓reduceIte, reduceCtorEq, Nat.reduceEqDiff]); try (first | (with_reducible assumption) | (with_reducible rfl) | (congr 2 <;> omega) | rfl))), Bd.new hz, by (repeat first | assumption | exact af.refl _ | apply af.push | refine af.set ?_ (by first | omega | (simp only [ac, ae, ab]; omega) | (have h9 := af.size_le (by assumption); (try simp only [ac, ae, ab] at *); omega)) _ | refine af.drop ?_ (by first | omega | (simp only [ac, ae, ab]; omega) | (have h9 := af.size_le (by assumption); (try simp only [ac, ae, ab] at *); omega)) | refine af.trans ?_ (by assumption))⟩ ?_
    rintro m ρ s' ⟨i, rfl, hi, g6, g19, g20, g21, j1, j2⟩
    by_cases c1 : i < l.length
    · have he := List.getElem?_eq_getElem c1
      have hm := ht _ (List.getElem_mem c1)
      have hmo := List.all_eq_true.1 hall _ (List.getElem_mem c1)
      generalize l[i] = o at he hm hmo
      have w := ahX hk o hmo (by omega)
      have hbl := nC hmo
      have hti := htl i
      rw [List.length_take] at hti
      have hlt := j1.lt
      repeat' (first | ((first | apply ao | apply aj | apply am | apply al | apply an | apply ak | apply ai | apply ag | apply ah) <;> intro hc <;> (try (simp -implicitDefEqProofs (maxSteps := 2000000) (disch := first | omega | (simp only [ac, ae, ab]; first | done | omega)) only [push_cast, seval, gu, gz, gC, gl, hc, g6, g19, g20, g21, he, eO])) <;> (try (exfalso; omega))) | refine ap (w) ?_ | (simp -implicitDefEqProofs (maxSteps := 2000000) (disch := first | omega | (simp only [ac, ae, ab]; first | done | omega)) only [push_cast, seval, gu, gz, gC, gl, g6, g19, g20, g21, he, eO]))
      all_goals (try (exfalso; omega))
      have hmin : min i l.length * (100000 + 20) ≤ 100000 * 100020 := Nat.mul_le_mul (by omega) (by omega)
      refine JB hk ((j1.push _).set (bB rfl) (by omega) (fun r hr => by cases hr; exact (by decide)) _) (aL o) (by omega) ?_
      intro s2 r q1 q2 q3
      (try (simp -implicitDefEqProofs (maxSteps := 2000000) (disch := first | omega | (simp only [ac, ae, ab]; first | done | omega)) only [push_cast, seval, gu, gz, gC, gl, g6, g19, g20, g21])) <;> (repeat' ((first | apply ao | apply aj | apply am | apply al | apply an | apply ak | apply ai | apply ag | apply ah) <;> intro hc <;> try (simp -implicitDefEqProofs (maxSteps := 2000000) (disch := first | omega | (simp only [ac, ae, ab]; first | done | omega)) only [push_cast, seval, gu, gz, gC, gl, hc, g6, g19, g20, g21])))
      refine ⟨_ - (i + 1), by omega, i + 1, rfl, by omega, congrArg (fun z => AV.c (.int .i64 z)) (by omega), ?_, q3 (by (repeat first | assumption | exact af.refl _ | apply af.push | refine af.set ?_ (by first | omega | (simp only [ac, ae, ab]; omega) | (have h9 := af.size_le (by assumption); (try simp only [ac, ae, ab] at *); omega)) _ | refine af.drop ?_ (by first | omega | (simp only [ac, ae, ab]; omega) | (have h9 := af.size_le (by assumption); (try simp only [ac, ae, ab] at *); omega)) | refine af.trans ?_ (by assumption)))⟩
      rw [aV he, fh]
      exact q1
    · have hi2 : i = l.length := by omega
      subst hi2
      rw [List.take_length] at j1
      repeat' (first | ((first | apply ao | apply aj | apply am | apply al | apply an | apply ak | apply ai | apply ag | apply ah) <;> intro hc <;> (try (simp -implicitDefEqProofs (maxSteps := 2000000) (disch := first | omega | (simp only [ac, ae, ab]; first | done | omega)) only [push_cast, seval, gu, gz, gC, gl, hc, g6, g19, g20, g21])) <;> (try (exfalso; omega))) | (simp -implicitDefEqProofs (maxSteps := 2000000) (disch := first | omega | (simp only [ac, ae, ab]; first | done | omega)) only [push_cast, seval, gu, gz, gC, gl, g6, g19, g20, g21]))
      all_goals (try (exfalso; omega))
      have hti := htl l.length
      rw [List.take_length] at hti
      have hmin : l.length * (100000 + 20) ≤ 100000 * 100020 := Nat.mul_le_mul (by omega) (by omega)
      refine Ij hk j1 (.inl rfl) (by omega) ?_
      intro s2 q1 q2
      (try (simp -implicitDefEqProofs (maxSteps := 2000000) (disch := first | omega | (simp only [ac, ae, ab]; first | done | omega)) only [push_cast, seval, gu, gz, gC, gl])) <;> (repeat' ((first | apply ao | apply aj | apply am | apply al | apply an | apply ak | apply ai | apply ag | apply ah) <;> intro hc <;> try (simp -implicitDefEqProofs (maxSteps := 2000000) (disch := first | omega | (simp only [ac, ae, ab]; first | done | omega)) only [push_cast, seval, gu, gz, gC, gl, hc])))
      exact ⟨q2 j2, Se.firm (az.tup (all_cons (az.c _) (all_cons (az.c _) all_nil)))⟩
end
end Go.Proofs.YticllcglldbffaaDoor.Ab
