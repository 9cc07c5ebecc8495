import Derived.Test.YticllcglldbffaaDoorE9
import Derived.Test.YticllcglldbffaaDoorU1
namespace Go.Proofs.YticllcglldbffaaDoor.Ab
open Go.Proofs
set_option maxRecDepth 100000
set_option maxHeartbeats 4000000
set_option linter.unusedSimpArgs false
set_option linter.unusedVariables false
set_option linter.unnecessarySimpa false
set_option linter.unusedSectionVars false
def sk1 (o : Ot) : List Ot := if o.1 ≠ 0 then [o] else if 0 < eL (a8 o.2.2.2) then [(0, eL (a8 o.2.2.2), 0, [])] else []
def eR (l : List Ot) : List Ot := (a7 l).flatMap sk1
theorem amA (o : Ot) : (sk1 o).length ≤ 1 := by
  unfold sk1
  (repeat' split) <;> simp
theorem uq (l : List Ot) : (l.flatMap sk1).length ≤ l.length := by
  induction l with
  | nil => simp
  | cons o l ih =>
    have := amA o
    rw [List.flatMap_cons, List.length_append, List.length_cons]
    omega
theorem oW (l : List Ot) : (a7 l).length ≤ l.length := by
  refine lr (P := fun l => (a7 l).length ≤ l.length) (Nat.le_refl _) (fun l o ih => ?_) l
  rw [dE, List.length_append, List.length_singleton]
  rcases bF (a7 l) with h | ⟨m, x, h⟩
  · rw [h, eX]; simp
  · rw [h] at ih ⊢
    rw [bE]
    split <;> simp at ih ⊢ <;> omega
def gJ (l : List Ot) : List UInt8 := l.flatMap (·.2.2.2)
theorem oG (l : List Ot) (o : Ot) : gJ (l ++ [o]) = gJ l ++ o.2.2.2 := by simp [gJ]
theorem WZ {m : List Ot} (hm : ∀ x, m.getLast? = some x → x.1 ≠ 0) : ∀ r : List Ot, (∀ o ∈ r, o = (0, 0, 0, o.2.2.2)) → r ≠ [] → a7 (m ++ r) = a7 m ++ [(0, 0, 0, gJ r)] := by
  intro r
  refine lr (P := fun r => (∀ o ∈ r, o = (0, 0, 0, o.2.2.2)) → r ≠ [] → a7 (m ++ r) = a7 m ++ [(0, 0, 0, gJ r)]) (fun _ h => absurd rfl h) (fun r o ih ho _ => ?_) r
  have h1 : o = (0, 0, 0, o.2.2.2) := ho o (by simp)
  rw [← List.append_assoc, dE]
  by_cases hr : r = []
  · subst hr
    rw [List.append_nil]
    rcases bF m with rfl | ⟨m0, x, rfl⟩
    · show [o] = _
      rw [h1]
      simp [gJ, a7]
    · have hx := hm x (by simp)
      have : a7 (m0 ++ [x]) = a7 m0 ++ [x] := by
        rw [dE]
        rcases bF (a7 m0) with h | ⟨q, y, h⟩
        · rw [h, eX]; rfl
        · rw [h, bE, if_neg (fun h => hx h.1)]
      rw [this, bE, if_neg (fun h => hx h.2)]
      rw [h1]
      simp [gJ]
  · rw [ih (fun x hx => ho x (by simp [hx])) hr, bE, if_pos ⟨by rw [h1], rfl⟩, oG]
theorem TV {m : List Ot} {o : Ot} (h : o.1 ≠ 0) : a7 (m ++ [o]) = a7 m ++ [o] := by
  rw [dE]
  rcases bF (a7 m) with h2 | ⟨q, y, h2⟩
  · rw [h2, eX]; rfl
  · rw [h2, bE, if_neg (fun h3 => h h3.1)]
theorem Ko (l : List Ot) : ((a7 l).map fun o => o.2.2.2.length).sum = (l.map fun o => o.2.2.2.length).sum := by
  refine lr (P := fun l => ((a7 l).map fun o => o.2.2.2.length).sum = (l.map fun o => o.2.2.2.length).sum) rfl (fun l o ih => ?_) l
  rw [dE, ww, ih]
  simp
theorem avN {l : List Ot} {o : Ot} (h : o ∈ l) : o.2.2.2.length ≤ (l.map fun o => o.2.2.2.length).sum := by
  induction l with
  | nil => simp at h
  | cons a l ih =>
    rw [List.map_cons, List.sum_cons]
    rcases List.mem_cons.1 h with rfl | h
    · omega
    · have := ih h; omega
theorem auW {l : List Ot} {c : Nat} (h : ∀ o ∈ l, o.2.2.2.length ≤ c) : (l.map fun o => o.2.2.2.length).sum ≤ l.length * c := by
  induction l with
  | nil => simp
  | cons a l ih =>
    have h1 := h a (by simp)
    have h2 := ih fun x hx => h x (by simp [hx])
    rw [List.map_cons, List.sum_cons, List.length_cons, Nat.succ_mul]
    omega
section
variable {k : Nat → List Value → Option Value} (hk : ∀ f, f ≠ 105 → f ≠ 149 → ax k f)
include hk
theorem ai1 (s : List UInt8) (hs : s.length < 1000000) : PC (XK k) 60 [tx s] (.c (.int .i64 (eL (a8 s)))) := by
  refine aI fun st => ?_
  refine asK (hk _ (by decide) (by decide)) ?_
  have hdl := eC s
  repeat' (first | ((first | apply ao | apply aj | apply am | apply al | apply an | apply ak | apply ai | apply ag | apply ah) <;> intro hc <;> (try (simp -implicitDefEqProofs (maxSteps := 2000000) (disch := first | omega | (simp only [ac, ae, ab]; first | done | omega)) only [push_cast, seval, wQ, wS, hc])) <;> (try (exfalso; omega))) | refine ap (Ji hk s hs) ?_ | (simp -implicitDefEqProofs (maxSteps := 2000000) (disch := first | omega | (simp only [ac, ae, ab]; first | done | omega)) only [push_cast, seval, wQ, wS]))
  generalize a8 s = d at *
  refine aM (fun m ρ s' => ∃ i : Nat, m = d.length - i ∧ i ≤ d.length ∧ ρ.get 7 = LI d ∧ ρ.get 8 = .c (.int .i64 d.length) ∧ ρ.get 9 = .c (.int .i64 i) ∧ (∃ w : Int, w = eL (d.take i) ∧ ρ.get 3 = .c (.int .i64 w)) ∧ (s' = st)) (d.length) ⟨0, rfl, Nat.zero_le _, by (((try simp -implicitDefEqProofs only [aw, aq, au.get_set, ar, List.getD_cons_zero, List.getD_cons_succ, ↓reduceIte, reduceCtorEq, Nat.reduceEqDiff]); try (first | (with_reducible assumption) | (with_reducible rfl) | (congr 2 <;> omega) | rfl))), by (((try simp -implicitDefEqProofs only [aw, aq, au.get_set, ar, List.getD_cons_zero, List.getD_cons_succ, ↓reduceIte, reduceCtorEq, Nat.reduceEqDiff]); try (first | (with_reducible assumption) | (with_reducible rfl) | (congr 2 <;> omega) | rfl))), by (((try simp -implicitDefEqProofs only [aw, aq, au.get_set, ar, List.getD_cons_zero, List.getD_cons_succ, ↓reduceIte, reduceCtorEq, Nat.reduceEqDiff]); try (first | (with_reducible assumption) | (with_reducible rfl) | (congr 2 <;> omega) | rfl))), ⟨0, by simp [eL], by (((try simp -implicitDefEqProofs only [aw, aq, au.get_set, ar, List.getD_cons_zero, List.getD_cons_succ, ↓reduceIte, reduceCtorEq, Nat.reduceEqDiff]); try (first | (with_reducible assumption) | (with_reducible rfl) | (congr 2 <;> omega) | rfl)))⟩, rfl⟩ ?_
  rintro m ρ s' ⟨i, rfl, hi, g7, g8, g9, j1, j2⟩
  subst j2
  obtain ⟨w, hww, g3⟩ := j1
  have hw := hU (d.take i)
  rw [List.length_take] at hw
  by_cases c1 : i < d.length
  · have he := List.getElem?_eq_getElem c1
    generalize d[i] = v at he
    have hwv := jt v
    repeat' (first | ((first | apply ao | apply aj | apply am | apply al | apply an | apply ak | apply ai | apply ag | apply ah) <;> intro hc <;> (try (simp -implicitDefEqProofs (maxSteps := 2000000) (disch := first | omega | (simp only [ac, ae, ab]; first | done | omega)) only [push_cast, seval, wQ, wS, hc, g3, g7, g8, g9, he, eI])) <;> (try (exfalso; omega))) | refine ap (XJ hk v) ?_ | (simp -implicitDefEqProofs (maxSteps := 2000000) (disch := first | omega | (simp only [ac, ae, ab]; first | done | omega)) only [push_cast, seval, wQ, wS, g3, g7, g8, g9, he, eI]))
    all_goals (try (exfalso; omega))
    refine ⟨_ - (i + 1), by omega, i + 1, rfl, by omega, congrArg (fun z => AV.c (.int .i64 z)) (by omega), ⟨_, ?_, rfl⟩⟩
    rw [aV he, oV, hww]
  · have hi2 : i = d.length := by omega
    subst hi2
    rw [List.take_length] at hww
    repeat' (first | ((first | apply ao | apply aj | apply am | apply al | apply an | apply ak | apply ai | apply ag | apply ah) <;> intro hc <;> (try (simp -implicitDefEqProofs (maxSteps := 2000000) (disch := first | omega | (simp only [ac, ae, ab]; first | done | omega)) only [push_cast, seval, wQ, wS, hc, g3, g7, g8, g9])) <;> (try (exfalso; omega))) | (simp -implicitDefEqProofs (maxSteps := 2000000) (disch := first | omega | (simp only [ac, ae, ab]; first | done | omega)) only [push_cast, seval, wQ, wS, g3, g7, g8, g9]))
    all_goals (try (exfalso; omega))
    exact aD (by (repeat first | assumption | exact af.refl _ | apply af.push | refine af.set ?_ (by first | omega | (simp only [ac, ae, ab]; omega) | (have h9 := af.size_le (by assumption); (try simp only [ac, ae, ab] at *); omega)) _ | refine af.drop ?_ (by first | omega | (simp only [ac, ae, ab]; omega) | (have h9 := af.size_le (by assumption); (try simp only [ac, ae, ab] at *); omega)) | refine af.trans ?_ (by assumption))) hww
theorem Yp (l : List Ot) (hl : l.length ≤ 1000) (ht : ∀ o ∈ l, o.2.2.2.length ≤ 900) : PC (XK k) 33 [LO l] (LO (eR l)) := by
  refine aI fun st => ?_
  refine as9 (hk _ (by decide) (by decide)) ?_
  have w1 := lO hk l (by omega) (fun o ho => by have := ht o ho; omega)
  have hjl := oW l
  have hjt : ∀ o ∈ a7 l, o.2.2.2.length ≤ 900000 := fun o ho => by
    have h1 := avN ho
    have h2 := auW ht
    have h3 : l.length * 900 ≤ 1000 * 900 := Nat.mul_le_mul_right _ hl
    rw [Ko] at h1
    omega
  repeat' (first | ((first | apply ao | apply aj | apply am | apply al | apply an | apply ak | apply ai | apply ag | apply ah) <;> intro hc <;> (try (simp -implicitDefEqProofs (maxSteps := 2000000) (disch := first | omega | (simp only [ac, ae, ab]; first | done | omega)) only [push_cast, seval, gk, gg, gf, gA, gj, hc])) <;> (try (exfalso; omega))) | refine ap (w1) ?_ | (simp -implicitDefEqProofs (maxSteps := 2000000) (disch := first | omega | (simp only [ac, ae, ab]; first | done | omega)) only [push_cast, seval, gk, gg, gf, gA, gj]))
  unfold eR
  generalize a7 l = j at *
  refine aM (fun m ρ s' => ∃ i : Nat, m = j.length - i ∧ i ≤ j.length ∧ ρ.get 3 = LO j ∧ ρ.get 5 = .c (.int .i64 i) ∧ (∃ v, ρ.get 4 = v ∧ Gw st s' 44 4 v ((j.take i).flatMap sk1).length (((j.take i).flatMap sk1).map eO).flatten) ∧ (af st s')) (j.length) ⟨0, rfl, Nat.zero_le _, by (((try simp -implicitDefEqProofs only [aw, aq, au.get_set, ar, List.getD_cons_zero, List.getD_cons_succ, ↓reduceIte, reduceCtorEq, Nat.reduceEqDiff]); try (first | (with_reducible assumption) | (with_reducible rfl) | (congr 2 <;> omega) | rfl))), by (((try simp -implicitDefEqProofs only [aw, aq, au.get_set, ar, List.getD_cons_zero, List.getD_cons_succ, ↓reduceIte, reduceCtorEq, Nat.reduceEqDiff]); try (first | (with_reducible assumption) | (with_reducible rfl) | (congr 2 <;> omega) | rfl))), ⟨_, by (((try simp -implicitDefEqProofs only [aw, aq, au.get_set, ar, List.getD_cons_zero, List.getD_cons_succ, ↓reduceIte, reduceCtorEq, Nat.reduceEqDiff]); try (first | (with_reducible assumption) | (with_reducible rfl) | (congr 2 <;> omega) | rfl))), .nil⟩, by (repeat first | assumption | exact af.refl _ | apply af.push | refine af.set ?_ (by first | omega | (simp only [ac, ae, ab]; omega) | (have h9 := af.size_le (by assumption); (try simp only [ac, ae, ab] at *); omega)) _ | refine af.drop ?_ (by first | omega | (simp only [ac, ae, ab]; omega) | (have h9 := af.size_le (by assumption); (try simp only [ac, ae, ab] at *); omega)) | refine af.trans ?_ (by assumption))⟩ ?_
  rintro m ρ s' ⟨i, rfl, hi, g3, g5, j1, j2⟩
  obtain ⟨v, g4, k1⟩ := j1
  by_cases c1 : i < j.length
  · have he := List.getElem?_eq_getElem c1
    have hot := hjt _ (List.getElem_mem c1)
    generalize j[i] = o at he hot
    have hsk := uq (j.take i)
    rw [List.length_take] at hsk
    have hst : (j.take (i + 1)).flatMap sk1 = (j.take i).flatMap sk1 ++ sk1 o := by rw [aV he]; simp
    by_cases h0 : o.1 = 0
    · have hdec := nb hk o.2.2.2 (by omega)
      repeat' (first | ((first | apply ao | apply aj | apply am | apply al | apply an | apply ak | apply ai | apply ag | apply ah) <;> intro hc <;> (try (simp -implicitDefEqProofs (maxSteps := 2000000) (disch := first | omega | (simp only [ac, ae, ab]; first | done | omega)) only [push_cast, seval, gk, gg, gf, gA, gj, hc, g3, g4, g5, he, eO, h0])) <;> (try (exfalso; omega))) | refine ap (hdec) ?_ | (simp -implicitDefEqProofs (maxSteps := 2000000) (disch := first | omega | (simp only [ac, ae, ab]; first | done | omega)) only [push_cast, seval, gk, gg, gf, gA, gj, g3, g4, g5, he, eO, h0]))
      have hdl := eC o.2.2.2
      have hs1 : sk1 o = if 0 < eL (a8 o.2.2.2) then [(0, eL (a8 o.2.2.2), 0, [])] else [] := by
        unfold sk1
        rw [if_neg (by omega)]
      generalize a8 o.2.2.2 = d at *
      have m2 := j2
      clear j2
      obtain ⟨s2, hs2⟩ : ∃ s2, s2 = s' := ⟨_, rfl⟩
      rw [← hs2] at m2 k1 ⊢
      refine aM (fun m ρ s' => ∃ t : Nat, m = d.length - t ∧ t ≤ d.length ∧ ρ.get 3 = LO j ∧ ρ.get 4 = v ∧ ρ.get 5 = .c (.int .i64 i) ∧ ρ.get 6 = LI d ∧ ρ.get 8 = .c (.int .i64 t) ∧ (∃ w : Int, w = eL (d.take t) ∧ ρ.get 7 = .c (.int .i64 w)) ∧ (s' = s2)) (d.length) ⟨0, rfl, Nat.zero_le _, by (((try simp -implicitDefEqProofs only [aw, aq, au.get_set, ar, List.getD_cons_zero, List.getD_cons_succ, ↓reduceIte, reduceCtorEq, Nat.reduceEqDiff]); try (first | (with_reducible assumption) | (with_reducible rfl) | (congr 2 <;> omega) | rfl))), by (((try simp -implicitDefEqProofs only [aw, aq, au.get_set, ar, List.getD_cons_zero, List.getD_cons_succ, ↓reduceIte, reduceCtorEq, Nat.reduceEqDiff]); try (first | (with_reducible assumption) | (with_reducible rfl) | (congr 2 <;> omega) | rfl))), by (((try simp -implicitDefEqProofs only [aw, aq, au.get_set, ar, List.getD_cons_zero, List.getD_cons_succ, ↓reduceIte, reduceCtorEq, Nat.reduceEqDiff]); try (first | (with_reducible assumption) | (with_reducible rfl) | (congr 2 <;> omega) | rfl))), by (((try simp -implicitDefEqProofs only [aw, aq, au.get_set, ar, List.getD_cons_zero, List.getD_cons_succ, ↓reduceIte, reduceCtorEq, Nat.reduceEqDiff]); try (first | (with_reducible assumption) | (with_reducible rfl) | (congr 2 <;> omega) | rfl))), by (((try simp -implicitDefEqProofs only [aw, aq, au.get_set, ar, List.getD_cons_zero, List.getD_cons_succ, ↓reduceIte, reduceCtorEq, Nat.reduceEqDiff]); try (first | (with_reducible assumption) | (with_reducible rfl) | (congr 2 <;> omega) | rfl))), ⟨0, by simp [eL], by (((try simp -implicitDefEqProofs only [aw, aq, au.get_set, ar, List.getD_cons_zero, List.getD_cons_succ, ↓reduceIte, reduceCtorEq, Nat.reduceEqDiff]); try (first | (with_reducible assumption) | (with_reducible rfl) | (congr 2 <;> omega) | rfl)))⟩, rfl⟩ ?_
      rintro m ρ s' ⟨t, rfl, ht, g3, g4, g5, g6, g8, j1, j2⟩
      subst j2
      obtain ⟨w, hww, g7⟩ := j1
      have hw := hU (d.take t)
      rw [List.length_take] at hw
      by_cases c2 : t < d.length
      · have he2 := List.getElem?_eq_getElem c2
        generalize d[t] = x at he2
        have hwv := jt x
        repeat' (first | ((first | apply ao | apply aj | apply am | apply al | apply an | apply ak | apply ai | apply ag | apply ah) <;> intro hc <;> (try (simp -implicitDefEqProofs (maxSteps := 2000000) (disch := first | omega | (simp only [ac, ae, ab]; first | done | omega)) only [push_cast, seval, gk, gg, gf, gA, gj, hc, g3, g4, g5, g6, g7, g8, he2, eI])) <;> (try (exfalso; omega))) | refine ap (xf hk x) ?_ | (simp -implicitDefEqProofs (maxSteps := 2000000) (disch := first | omega | (simp only [ac, ae, ab]; first | done | omega)) only [push_cast, seval, gk, gg, gf, gA, gj, g3, g4, g5, g6, g7, g8, he2, eI]))
        all_goals (try (exfalso; omega))
        refine ⟨_ - (t + 1), by omega, t + 1, rfl, by omega, congrArg (fun z => AV.c (.int .i64 z)) (by omega), ⟨_, ?_, rfl⟩⟩
        rw [aV he2, oV, hww]
      · have ht2 : t = d.length := by omega
        subst ht2
        rw [List.take_length] at hww
        repeat' (first | ((first | apply ao | apply aj | apply am | apply al | apply an | apply ak | apply ai | apply ag | apply ah) <;> intro hc <;> (try (simp -implicitDefEqProofs (maxSteps := 2000000) (disch := first | omega | (simp only [ac, ae, ab]; first | done | omega)) only [push_cast, seval, gk, gg, gf, gA, gj, hc, g3, g4, g5, g6, g7, g8])) <;> (try (exfalso; omega))) | (simp -implicitDefEqProofs (maxSteps := 2000000) (disch := first | omega | (simp only [ac, ae, ab]; first | done | omega)) only [push_cast, seval, gk, gg, gf, gA, gj, g3, g4, g5, g6, g7, g8]))
        all_goals (try (exfalso; omega))
        · rw [if_pos (by omega)] at hs1
          refine Gw.step (sz := 4) (k1.push _) (by (repeat first | assumption | exact af.refl _ | apply af.push | refine af.set ?_ (by first | omega | (simp only [ac, ae, ab]; omega) | (have h9 := af.size_le (by assumption); (try simp only [ac, ae, ab] at *); omega)) _ | refine af.drop ?_ (by first | omega | (simp only [ac, ae, ab]; omega) | (have h9 := af.size_le (by assumption); (try simp only [ac, ae, ab] at *); omega)) | refine af.trans ?_ (by assumption))) rfl rfl rfl (cp (by constructor <;> (try dsimp only) <;> omega)) ?_
          intro v2 sN hg _ _ hkp
          (try (simp -implicitDefEqProofs (maxSteps := 2000000) (disch := first | omega | (simp only [ac, ae, ab]; first | done | omega)) only [push_cast, seval, gk, gg, gf, gA, gj, g3, g4, g5])) <;> (repeat' ((first | apply ao | apply aj | apply am | apply al | apply an | apply ak | apply ai | apply ag | apply ah) <;> intro hc <;> try (simp -implicitDefEqProofs (maxSteps := 2000000) (disch := first | omega | (simp only [ac, ae, ab]; first | done | omega)) only [push_cast, seval, gk, gg, gf, gA, gj, hc, g3, g4, g5])))
          refine ⟨_ - (i + 1), by omega, i + 1, rfl, by omega, congrArg (fun z => AV.c (.int .i64 z)) (by omega), ⟨v2, rfl, ?_⟩, hkp⟩
          rw [hst, hs1]
          exact hg.cast (by simp) (by simp [eO, hww])
        · rw [if_neg (by omega)] at hs1
          refine ⟨_ - (i + 1), by omega, i + 1, rfl, by omega, congrArg (fun z => AV.c (.int .i64 z)) (by omega), ?_, m2⟩
          rw [hst, hs1, List.append_nil]
          exact ⟨v, rfl, k1⟩
    · have hs1 : sk1 o = [o] := by unfold sk1; rw [if_pos h0]
      repeat' (first | ((first | apply ao | apply aj | apply am | apply al | apply an | apply ak | apply ai | apply ag | apply ah) <;> intro hc <;> (try (simp -implicitDefEqProofs (maxSteps := 2000000) (disch := first | omega | (simp only [ac, ae, ab]; first | done | omega)) only [push_cast, seval, gk, gg, gf, gA, gj, hc, g3, g4, g5, he, eO, h0])) <;> (try (exfalso; omega))) | (simp -implicitDefEqProofs (maxSteps := 2000000) (disch := first | omega | (simp only [ac, ae, ab]; first | done | omega)) only [push_cast, seval, gk, gg, gf, gA, gj, g3, g4, g5, he, eO, h0]))
      refine Gw.step (sz := 4) (k1.push _) (by (repeat first | assumption | exact af.refl _ | apply af.push | refine af.set ?_ (by first | omega | (simp only [ac, ae, ab]; omega) | (have h9 := af.size_le (by assumption); (try simp only [ac, ae, ab] at *); omega)) _ | refine af.drop ?_ (by first | omega | (simp only [ac, ae, ab]; omega) | (have h9 := af.size_le (by assumption); (try simp only [ac, ae, ab] at *); omega)) | refine af.trans ?_ (by assumption))) rfl rfl rfl (cp (by constructor <;> (try dsimp only) <;> omega)) ?_
      intro v2 sN hg _ _ hkp
      (try (simp -implicitDefEqProofs (maxSteps := 2000000) (disch := first | omega | (simp only [ac, ae, ab]; first | done | omega)) only [push_cast, seval, gk, gg, gf, gA, gj, g3, g4, g5])) <;> (repeat' ((first | apply ao | apply aj | apply am | apply al | apply an | apply ak | apply ai | apply ag | apply ah) <;> intro hc <;> try (simp -implicitDefEqProofs (maxSteps := 2000000) (disch := first | omega | (simp only [ac, ae, ab]; first | done | omega)) only [push_cast, seval, gk, gg, gf, gA, gj, hc, g3, g4, g5])))
      refine ⟨_ - (i + 1), by omega, i + 1, rfl, by omega, congrArg (fun z => AV.c (.int .i64 z)) (by omega), ⟨v2, rfl, ?_⟩, hkp⟩
      rw [hst, hs1]
      exact hg.cast (by simp) (by simp [eO])
  · have hi2 : i = j.length := by omega
    subst hi2
    rw [List.take_length] at k1
    repeat' (first | ((first | apply ao | apply aj | apply am | apply al | apply an | apply ak | apply ai | apply ag | apply ah) <;> intro hc <;> (try (simp -implicitDefEqProofs (maxSteps := 2000000) (disch := first | omega | (simp only [ac, ae, ab]; first | done | omega)) only [push_cast, seval, gk, gg, gf, gA, gj, hc, g3, g4, g5])) <;> (try (exfalso; omega))) | (simp -implicitDefEqProofs (maxSteps := 2000000) (disch := first | omega | (simp only [ac, ae, ab]; first | done | omega)) only [push_cast, seval, gk, gg, gf, gA, gj, g3, g4, g5]))
    all_goals (try (exfalso; omega))
    exact k1.outm j2 jq ez (by omega)
theorem Uk (l : List Ot) (hm : l.all aW = true) (hl : l.length ≤ 1000) (ht : ∀ o ∈ l, o.2.2.2.length ≤ 900) : PC (XK k) 32 [LO l] (LO (eR l)) := by
  refine aI fun st => ?_
  refine avH (hk _ (by decide) (by decide)) ?_
  repeat' (first | ((first | apply ao | apply aj | apply am | apply al | apply an | apply ak | apply ai | apply ag | apply ah) <;> intro hc <;> (try (simp -implicitDefEqProofs (maxSteps := 2000000) (disch := first | omega | (simp only [ac, ae, ab]; first | done | omega)) only [push_cast, seval, ed, ee, eb, ec, d8, hc])) <;> (try (exfalso; omega))) | (simp -implicitDefEqProofs (maxSteps := 2000000) (disch := first | omega | (simp only [ac, ae, ab]; first | done | omega)) only [push_cast, seval, ed, ee, eb, ec, d8]))
  refine aM (fun m ρ s' => ∃ (i : Nat) (v : AV), m = l.length - i ∧ i ≤ l.length ∧ (∀ x y, l[i]? = some y → (l.take i).getLast? = some x → ¬ (x.1 = 0 ∧ y.1 = 0)) ∧ ρ.get 0 = LO l ∧ ρ.get 3 = v ∧ ρ.get 4 = .c (.int .i64 i) ∧ Gw st s' 44 4 v (eR (l.take i)).length ((eR (l.take i)).map eO).flatten ∧ af st s') l.length
    ⟨0, _, rfl, Nat.zero_le _, fun x y _ h => by simp at h, by (((try simp -implicitDefEqProofs only [aw, aq, au.get_set, ar, List.getD_cons_zero, List.getD_cons_succ, ↓reduceIte, reduceCtorEq, Nat.reduceEqDiff]); try (first | (with_reducible assumption) | (with_reducible rfl) | (congr 2 <;> omega) | rfl))), by (((try simp -implicitDefEqProofs only [aw, aq, au.get_set, ar, List.getD_cons_zero, List.getD_cons_succ, ↓reduceIte, reduceCtorEq, Nat.reduceEqDiff]); try (first | (with_reducible assumption) | (with_reducible rfl) | (congr 2 <;> omega) | rfl))), by (((try simp -implicitDefEqProofs only [aw, aq, au.get_set, ar, List.getD_cons_zero, List.getD_cons_succ, ↓reduceIte, reduceCtorEq, Nat.reduceEqDiff]); try (first | (with_reducible assumption) | (with_reducible rfl) | (congr 2 <;> omega) | rfl))), .nil, by (repeat first | assumption | exact af.refl _ | apply af.push | refine af.set ?_ (by first | omega | (simp only [ac, ae, ab]; omega) | (have h9 := af.size_le (by assumption); (try simp only [ac, ae, ab] at *); omega)) _ | refine af.drop ?_ (by first | omega | (simp only [ac, ae, ab]; omega) | (have h9 := af.size_le (by assumption); (try simp only [ac, ae, ab] at *); omega)) | refine af.trans ?_ (by assumption))⟩ ?_
  rintro m ρ s' ⟨i, v, rfl, hi, hb, g0, g3, g4, k1, k2⟩
  have hskl : (eR (l.take i)).length ≤ i := by
    have h1 := uq (a7 (l.take i))
    have h2 := oW (l.take i)
    rw [List.length_take] at h2
    unfold eR
    omega
  by_cases c1 : i < l.length
  · have he := List.getElem?_eq_getElem c1
    have hmem := List.getElem_mem c1
    generalize l[i] = o at he hmem
    by_cases h0 : o.1 = 0
    · repeat' (first | ((first | apply ao | apply aj | apply am | apply al | apply an | apply ak | apply ai | apply ag | apply ah) <;> intro hc <;> (try (simp -implicitDefEqProofs (maxSteps := 2000000) (disch := first | omega | (simp only [ac, ae, ab]; first | done | omega)) only [push_cast, seval, ed, ee, eb, ec, d8, hc, g0, g3, g4, he, eO, h0])) <;> (try (exfalso; omega))) | (simp -implicitDefEqProofs (maxSteps := 2000000) (disch := first | omega | (simp only [ac, ae, ab]; first | done | omega)) only [push_cast, seval, ed, ee, eb, ec, d8, g0, g3, g4, he, eO, h0]))
      obtain ⟨s2, hs2⟩ : ∃ s2, s2 = s' := ⟨_, rfl⟩
      rw [← hs2] at k1 k2 ⊢
      have hlast : ∀ x, (l.take i).getLast? = some x → x.1 ≠ 0 := fun x hx h => hb x o he hx ⟨h, h0⟩
      refine aM (fun m ρ s' => ∃ (j : Nat) (r : List Ot), m = l.length - j ∧ i ≤ j ∧ j ≤ l.length ∧ l.take j = l.take i ++ r ∧ (∀ x ∈ r, x = (0, 0, 0, x.2.2.2)) ∧ (a8 (gJ r)).all okV = true ∧ (gJ r).length ≤ r.length * 900 ∧ r.length ≤ j ∧ (i < j → r ≠ []) ∧ (∀ x, r.getLast? = some x → x.1 = 0) ∧ ρ.get 0 = LO l ∧ ρ.get 3 = v ∧ ρ.get 4 = .c (.int .i64 j) ∧ ρ.get 5 = .c (.int .i64 (eL (a8 (gJ r)))) ∧ s' = s2) (l.length - i)
        ⟨i, [], rfl, Nat.le_refl _, hi, by simp, by simp, by simp [gJ, dD], by simp [gJ], by simp, fun h => absurd h (Nat.lt_irrefl _), by simp, by (((try simp -implicitDefEqProofs only [aw, aq, au.get_set, ar, List.getD_cons_zero, List.getD_cons_succ, ↓reduceIte, reduceCtorEq, Nat.reduceEqDiff]); try (first | (with_reducible assumption) | (with_reducible rfl) | (congr 2 <;> omega) | rfl))), by (((try simp -implicitDefEqProofs only [aw, aq, au.get_set, ar, List.getD_cons_zero, List.getD_cons_succ, ↓reduceIte, reduceCtorEq, Nat.reduceEqDiff]); try (first | (with_reducible assumption) | (with_reducible rfl) | (congr 2 <;> omega) | rfl))), by (((try simp -implicitDefEqProofs only [aw, aq, au.get_set, ar, List.getD_cons_zero, List.getD_cons_succ, ↓reduceIte, reduceCtorEq, Nat.reduceEqDiff]); try (first | (with_reducible assumption) | (with_reducible rfl) | (congr 2 <;> omega) | rfl))), by simp [gJ, dD, eL]; (((try simp -implicitDefEqProofs only [aw, aq, au.get_set, ar, List.getD_cons_zero, List.getD_cons_succ, ↓reduceIte, reduceCtorEq, Nat.reduceEqDiff]); try (first | (with_reducible assumption) | (with_reducible rfl) | (congr 2 <;> omega) | rfl))), rfl⟩ ?_
      rintro m ρ s' ⟨j, r, rfl, hij, hj, r1, r2, r3, r4, r5, r6, r7, g0, g3, g4, g5, rfl⟩
      have hrl : r.length ≤ 1000 := by omega
      have hr9 : r.length * 900 ≤ 1000 * 900 := Nat.mul_le_mul_right _ hrl
      have hdl := eC (gJ r)
      have hwr := hU (a8 (gJ r))
      have fin : ∀ ρ1 : au, i < j → ρ1.get 0 = LO l → ρ1.get 3 = v → ρ1.get 4 = .c (.int .i64 j) → ρ1.get 5 = .c (.int .i64 (eL (a8 (gJ r)))) → (∀ x y, l[j]? = some y → (l.take j).getLast? = some x → ¬ (x.1 = 0 ∧ y.1 = 0)) → ∀ {K : Xit → au → VS → Prop}, (∀ ρ2 s3 v3, ρ2.get 0 = LO l → ρ2.get 3 = v3 → ρ2.get 4 = .c (.int .i64 j) → Gw st s3 44 4 v3 (eR (l.take j)).length ((eR (l.take j)).map eO).flatten → af st s3 → K .normal ρ2 s3) → vwp (XK k) jn ρ1 s' K := by
        intro ρ1 hlt g0 g3 g4 g5 hbb K hK
        have hjr := WZ hlast r r2 (r6 hlt)
        have hsk : eR (l.take j) = eR (l.take i) ++ sk1 (0, 0, 0, gJ r) := by
          unfold eR
          rw [r1, hjr]
          simp
        have hs1 : sk1 (0, 0, 0, gJ r) = if 0 < eL (a8 (gJ r)) then [(0, eL (a8 (gJ r)), 0, [])] else [] := by
          unfold sk1
          rw [if_neg (by simp)]
        repeat' (first | ((first | apply ao | apply aj | apply am | apply al | apply an | apply ak | apply ai | apply ag | apply ah) <;> intro hc <;> (try (simp -implicitDefEqProofs (maxSteps := 2000000) (disch := first | omega | (simp only [ac, ae, ab]; first | done | omega)) only [push_cast, seval, ed, ee, eb, ec, d8, hc, g0, g3, g4, g5])) <;> (try (exfalso; omega))) | (simp -implicitDefEqProofs (maxSteps := 2000000) (disch := first | omega | (simp only [ac, ae, ab]; first | done | omega)) only [push_cast, seval, ed, ee, eb, ec, d8, g0, g3, g4, g5]))
        · rw [if_pos (by omega)] at hs1
          refine Gw.step (sz := 4) (k1.push _) (by (repeat first | assumption | exact af.refl _ | apply af.push | refine af.set ?_ (by first | omega | (simp only [ac, ae, ab]; omega) | (have h9 := af.size_le (by assumption); (try simp only [ac, ae, ab] at *); omega)) _ | refine af.drop ?_ (by first | omega | (simp only [ac, ae, ab]; omega) | (have h9 := af.size_le (by assumption); (try simp only [ac, ae, ab] at *); omega)) | refine af.trans ?_ (by assumption))) rfl rfl rfl (cp (by constructor <;> (try dsimp only) <;> omega)) ?_
          intro v2 sN hg _ _ hkp
          (try (simp -implicitDefEqProofs (maxSteps := 2000000) (disch := first | omega | (simp only [ac, ae, ab]; first | done | omega)) only [push_cast, seval, ed, ee, eb, ec, d8, g0, g3, g4])) <;> (repeat' ((first | apply ao | apply aj | apply am | apply al | apply an | apply ak | apply ai | apply ag | apply ah) <;> intro hc <;> try (simp -implicitDefEqProofs (maxSteps := 2000000) (disch := first | omega | (simp only [ac, ae, ab]; first | done | omega)) only [push_cast, seval, ed, ee, eb, ec, d8, hc, g0, g3, g4])))
          refine hK _ _ v2 (by (((try simp -implicitDefEqProofs only [aw, aq, au.get_set, ar, List.getD_cons_zero, List.getD_cons_succ, ↓reduceIte, reduceCtorEq, Nat.reduceEqDiff]); try (first | (with_reducible assumption) | (with_reducible rfl) | (congr 2 <;> omega) | rfl)))) (by (((try simp -implicitDefEqProofs only [aw, aq, au.get_set, ar, List.getD_cons_zero, List.getD_cons_succ, ↓reduceIte, reduceCtorEq, Nat.reduceEqDiff]); try (first | (with_reducible assumption) | (with_reducible rfl) | (congr 2 <;> omega) | rfl)))) (by (((try simp -implicitDefEqProofs only [aw, aq, au.get_set, ar, List.getD_cons_zero, List.getD_cons_succ, ↓reduceIte, reduceCtorEq, Nat.reduceEqDiff]); try (first | (with_reducible assumption) | (with_reducible rfl) | (congr 2 <;> omega) | rfl)))) ?_ hkp
          rw [hsk, hs1]
          exact hg.cast (by simp) (by simp [eO])
        · rw [if_neg (by omega)] at hs1
          refine hK _ _ v (by (((try simp -implicitDefEqProofs only [aw, aq, au.get_set, ar, List.getD_cons_zero, List.getD_cons_succ, ↓reduceIte, reduceCtorEq, Nat.reduceEqDiff]); try (first | (with_reducible assumption) | (with_reducible rfl) | (congr 2 <;> omega) | rfl)))) (by (((try simp -implicitDefEqProofs only [aw, aq, au.get_set, ar, List.getD_cons_zero, List.getD_cons_succ, ↓reduceIte, reduceCtorEq, Nat.reduceEqDiff]); try (first | (with_reducible assumption) | (with_reducible rfl) | (congr 2 <;> omega) | rfl)))) (by (((try simp -implicitDefEqProofs only [aw, aq, au.get_set, ar, List.getD_cons_zero, List.getD_cons_succ, ↓reduceIte, reduceCtorEq, Nat.reduceEqDiff]); try (first | (with_reducible assumption) | (with_reducible rfl) | (congr 2 <;> omega) | rfl)))) ?_ k2
          rw [hsk, hs1, List.append_nil]
          exact k1
      by_cases c2 : j < l.length
      · have he2 := List.getElem?_eq_getElem c2
        have hmem2 := List.getElem_mem c2
        generalize l[j] = y at he2 hmem2
        by_cases hy : y.1 = 0
        · obtain ⟨ey, ny, ay⟩ := d9 (List.all_eq_true.1 hm y hmem2) hy
          have hyl := ht y hmem2
          have hcd : a8 (gJ (r ++ [y])) = a8 (gJ r) ++ a8 y.2.2.2 := by rw [oG, ng _ _ r3]
          have hws : eL (a8 (gJ (r ++ [y]))) = eL (a8 (gJ r)) + eL (a8 y.2.2.2) := by rw [hcd]; simp [eL]
          have hwy := hU (a8 y.2.2.2)
          have hdy := eC y.2.2.2
          repeat' (first | ((first | apply ao | apply aj | apply am | apply al | apply an | apply ak | apply ai | apply ag | apply ah) <;> intro hc <;> (try (simp -implicitDefEqProofs (maxSteps := 2000000) (disch := first | omega | (simp only [ac, ae, ab]; first | done | omega)) only [push_cast, seval, ed, ee, eb, ec, d8, hc, g0, g3, g4, g5, he2, eO, hy])) <;> (try (exfalso; omega))) | refine ap (ai1 hk y.2.2.2 (by omega)) ?_ | (simp -implicitDefEqProofs (maxSteps := 2000000) (disch := first | omega | (simp only [ac, ae, ab]; first | done | omega)) only [push_cast, seval, ed, ee, eb, ec, d8, g0, g3, g4, g5, he2, eO, hy]))
          all_goals (try (exfalso; omega))
          refine ⟨_ - (j + 1), by omega, j + 1, r ++ [y], rfl, by omega, by omega, by rw [aV he2, r1, List.append_assoc], ?_, ?_, ?_, by simp; omega, fun _ => by simp, ?_, congrArg (fun z => AV.c (.int .i64 z)) (by omega), congrArg (fun z => AV.c (.int .i64 z)) hws.symm⟩
          · intro x hx
            rcases List.mem_append.1 hx with hx | hx
            · exact r2 x hx
            · rw [List.mem_singleton] at hx
              subst hx
              exact ey
          · rw [hcd, List.all_append, r3, ay]; rfl
          · rw [oG, List.length_append, List.length_append, List.length_singleton, Nat.add_mul]
            omega
          · intro x hx
            simp at hx
            subst hx
            exact hy
        · have hlt : i < j := by
            rcases Nat.lt_or_ge i j with h | h
            · exact h
            · have : i = j := by omega
              subst this
              rw [he] at he2
              cases he2
              exact absurd h0 hy
          have hbb : ∀ x y, l[j]? = some y → (l.take j).getLast? = some x → ¬ (x.1 = 0 ∧ y.1 = 0) := fun x y2 h1 _ h3 => by
            rw [he2] at h1
            cases h1
            exact hy h3.2
          repeat' (first | ((first | apply ao | apply aj | apply am | apply al | apply an | apply ak | apply ai | apply ag | apply ah) <;> intro hc <;> (try (simp -implicitDefEqProofs (maxSteps := 2000000) (disch := first | omega | (simp only [ac, ae, ab]; first | done | omega)) only [push_cast, seval, (@vS (XK k) mZ ki pX rfl), (@vO (XK k) mZ _ _ _ rfl (by kernel_rfl)), (@vS (XK k) mJ kk ki rfl), (@vO (XK k) mJ _ _ _ rfl (by kernel_rfl)), (@vS (XK k) jH fP kk rfl), (@vS (XK k) mX kT jH rfl), (@vO (XK k) mX _ _ _ rfl (by kernel_rfl)), (@vB (XK k) kX kT 0 rfl), (@vL (XK k) kh kX rfl), (@vS (XK k) gc gQ kh rfl), (@vS (XK k) iJ fG gc rfl), (@vO (XK k) iJ _ _ _ rfl (by kernel_rfl)), (@vC (XK k) iw iG fG (.tmp 9) rfl), (@vK (XK k) iw rfl), (@vE (XK k) iG 0 rfl), (@vB (XK k) fT gQ 1 rfl), (@vS (XK k) fU fK fT rfl), (@vS (XK k) iC f3 fU rfl), (@vO (XK k) iC _ _ _ rfl (by kernel_rfl)), (@vC (XK k) fY ix f3 (.tmp 15) rfl), (@vS (XK k) iO fH fY rfl), (@vO (XK k) iO _ _ _ rfl (by kernel_rfl)), (@vS (XK k) iz iF fH rfl), (@vO (XK k) iz _ _ _ rfl (by kernel_rfl)), (@vE (XK k) iF 1 rfl), (@vK (XK k) ix rfl), (@vS (XK k) iQ fL fK rfl), (@vO (XK k) iQ _ _ _ rfl (by kernel_rfl)), (@vS (XK k) gY jn fL rfl), (@vB (XK k) hZ gY 2 rfl), (@vL (XK k) fX hZ rfl), (@vS (XK k) fF fO fX rfl), (@vS (XK k) iE ga fF rfl), (@vO (XK k) iE _ _ _ rfl (by kernel_rfl)), (@vC (XK k) iD iP ga (.tmp 36) rfl), (@vK (XK k) iD rfl), (@vE (XK k) iP 2 rfl), (@vS (XK k) gV iy fO rfl), (@vB (XK k) iT gV 3 rfl), (@vO (XK k) iT _ _ _ rfl (by kernel_rfl)), (@vO (XK k) iy _ _ _ rfl (by kernel_rfl)), (@vO (XK k) oU _ _ _ rfl (by kernel_rfl)), (@vC (XK k) iH iI lA (.tmp 48) rfl), (@vO (XK k) iH _ _ _ rfl (by kernel_rfl)), (@vK (XK k) iI rfl), (@vS (XK k) iB iL fP rfl), (@vO (XK k) iB _ _ _ rfl (by kernel_rfl)), (@vR (XK k) iL rfl), hc, g0, g3, g4, g5, he2, eO, hy])) <;> (try (exfalso; omega))) | (simp -implicitDefEqProofs (maxSteps := 2000000) (disch := first | omega | (simp only [ac, ae, ab]; first | done | omega)) only [push_cast, seval, (@vS (XK k) mZ ki pX rfl), (@vO (XK k) mZ _ _ _ rfl (by kernel_rfl)), (@vS (XK k) mJ kk ki rfl), (@vO (XK k) mJ _ _ _ rfl (by kernel_rfl)), (@vS (XK k) jH fP kk rfl), (@vS (XK k) mX kT jH rfl), (@vO (XK k) mX _ _ _ rfl (by kernel_rfl)), (@vB (XK k) kX kT 0 rfl), (@vL (XK k) kh kX rfl), (@vS (XK k) gc gQ kh rfl), (@vS (XK k) iJ fG gc rfl), (@vO (XK k) iJ _ _ _ rfl (by kernel_rfl)), (@vC (XK k) iw iG fG (.tmp 9) rfl), (@vK (XK k) iw rfl), (@vE (XK k) iG 0 rfl), (@vB (XK k) fT gQ 1 rfl), (@vS (XK k) fU fK fT rfl), (@vS (XK k) iC f3 fU rfl), (@vO (XK k) iC _ _ _ rfl (by kernel_rfl)), (@vC (XK k) fY ix f3 (.tmp 15) rfl), (@vS (XK k) iO fH fY rfl), (@vO (XK k) iO _ _ _ rfl (by kernel_rfl)), (@vS (XK k) iz iF fH rfl), (@vO (XK k) iz _ _ _ rfl (by kernel_rfl)), (@vE (XK k) iF 1 rfl), (@vK (XK k) ix rfl), (@vS (XK k) iQ fL fK rfl), (@vO (XK k) iQ _ _ _ rfl (by kernel_rfl)), (@vS (XK k) gY jn fL rfl), (@vB (XK k) hZ gY 2 rfl), (@vL (XK k) fX hZ rfl), (@vS (XK k) fF fO fX rfl), (@vS (XK k) iE ga fF rfl), (@vO (XK k) iE _ _ _ rfl (by kernel_rfl)), (@vC (XK k) iD iP ga (.tmp 36) rfl), (@vK (XK k) iD rfl), (@vE (XK k) iP 2 rfl), (@vS (XK k) gV iy fO rfl), (@vB (XK k) iT gV 3 rfl), (@vO (XK k) iT _ _ _ rfl (by kernel_rfl)), (@vO (XK k) iy _ _ _ rfl (by kernel_rfl)), (@vO (XK k) oU _ _ _ rfl (by kernel_rfl)), (@vC (XK k) iH iI lA (.tmp 48) rfl), (@vO (XK k) iH _ _ _ rfl (by kernel_rfl)), (@vK (XK k) iI rfl), (@vS (XK k) iB iL fP rfl), (@vO (XK k) iB _ _ _ rfl (by kernel_rfl)), (@vR (XK k) iL rfl), g0, g3, g4, g5, he2, eO, hy]))
          all_goals (try (exfalso; omega))
          refine fin _ hlt (by (((try simp -implicitDefEqProofs only [aw, aq, au.get_set, ar, List.getD_cons_zero, List.getD_cons_succ, ↓reduceIte, reduceCtorEq, Nat.reduceEqDiff]); try (first | (with_reducible assumption) | (with_reducible rfl) | (congr 2 <;> omega) | rfl)))) (by (((try simp -implicitDefEqProofs only [aw, aq, au.get_set, ar, List.getD_cons_zero, List.getD_cons_succ, ↓reduceIte, reduceCtorEq, Nat.reduceEqDiff]); try (first | (with_reducible assumption) | (with_reducible rfl) | (congr 2 <;> omega) | rfl)))) (by (((try simp -implicitDefEqProofs only [aw, aq, au.get_set, ar, List.getD_cons_zero, List.getD_cons_succ, ↓reduceIte, reduceCtorEq, Nat.reduceEqDiff]); try (first | (with_reducible assumption) | (with_reducible rfl) | (congr 2 <;> omega) | rfl)))) (by (((try simp -implicitDefEqProofs only [aw, aq, au.get_set, ar, List.getD_cons_zero, List.getD_cons_succ, ↓reduceIte, reduceCtorEq, Nat.reduceEqDiff]); try (first | (with_reducible assumption) | (with_reducible rfl) | (congr 2 <;> omega) | rfl)))) hbb fun ρ2 s3 v3 e0 e3 e4 hG hKp => ?_
          (try (simp -implicitDefEqProofs (maxSteps := 2000000) (disch := first | omega | (simp only [ac, ae, ab]; first | done | omega)) only [push_cast, seval, ed, ee, eb, ec, d8])) <;> (repeat' ((first | apply ao | apply aj | apply am | apply al | apply an | apply ak | apply ai | apply ag | apply ah) <;> intro hc <;> try (simp -implicitDefEqProofs (maxSteps := 2000000) (disch := first | omega | (simp only [ac, ae, ab]; first | done | omega)) only [push_cast, seval, ed, ee, eb, ec, d8, hc])))
          exact ⟨_ - j, by omega, j, v3, rfl, hj, hbb, e0, e3, e4, hG, hKp⟩
      · have hbb : ∀ x y, l[j]? = some y → (l.take j).getLast? = some x → ¬ (x.1 = 0 ∧ y.1 = 0) := fun x y2 h1 _ h3 => by
          have := (List.getElem?_eq_some_iff.1 h1).1
          exact c2 this
        repeat' (first | ((first | apply ao | apply aj | apply am | apply al | apply an | apply ak | apply ai | apply ag | apply ah) <;> intro hc <;> (try (simp -implicitDefEqProofs (maxSteps := 2000000) (disch := first | omega | (simp only [ac, ae, ab]; first | done | omega)) only [push_cast, seval, (@vS (XK k) mZ ki pX rfl), (@vO (XK k) mZ _ _ _ rfl (by kernel_rfl)), (@vS (XK k) mJ kk ki rfl), (@vO (XK k) mJ _ _ _ rfl (by kernel_rfl)), (@vS (XK k) jH fP kk rfl), (@vS (XK k) mX kT jH rfl), (@vO (XK k) mX _ _ _ rfl (by kernel_rfl)), (@vB (XK k) kX kT 0 rfl), (@vL (XK k) kh kX rfl), (@vS (XK k) gc gQ kh rfl), (@vS (XK k) iJ fG gc rfl), (@vO (XK k) iJ _ _ _ rfl (by kernel_rfl)), (@vC (XK k) iw iG fG (.tmp 9) rfl), (@vK (XK k) iw rfl), (@vE (XK k) iG 0 rfl), (@vB (XK k) fT gQ 1 rfl), (@vS (XK k) fU fK fT rfl), (@vS (XK k) iC f3 fU rfl), (@vO (XK k) iC _ _ _ rfl (by kernel_rfl)), (@vC (XK k) fY ix f3 (.tmp 15) rfl), (@vS (XK k) iO fH fY rfl), (@vO (XK k) iO _ _ _ rfl (by kernel_rfl)), (@vS (XK k) iz iF fH rfl), (@vO (XK k) iz _ _ _ rfl (by kernel_rfl)), (@vE (XK k) iF 1 rfl), (@vK (XK k) ix rfl), (@vS (XK k) iQ fL fK rfl), (@vO (XK k) iQ _ _ _ rfl (by kernel_rfl)), (@vS (XK k) gY jn fL rfl), (@vB (XK k) hZ gY 2 rfl), (@vL (XK k) fX hZ rfl), (@vS (XK k) fF fO fX rfl), (@vS (XK k) iE ga fF rfl), (@vO (XK k) iE _ _ _ rfl (by kernel_rfl)), (@vC (XK k) iD iP ga (.tmp 36) rfl), (@vK (XK k) iD rfl), (@vE (XK k) iP 2 rfl), (@vS (XK k) gV iy fO rfl), (@vB (XK k) iT gV 3 rfl), (@vO (XK k) iT _ _ _ rfl (by kernel_rfl)), (@vO (XK k) iy _ _ _ rfl (by kernel_rfl)), (@vO (XK k) oU _ _ _ rfl (by kernel_rfl)), (@vC (XK k) iH iI lA (.tmp 48) rfl), (@vO (XK k) iH _ _ _ rfl (by kernel_rfl)), (@vK (XK k) iI rfl), (@vS (XK k) iB iL fP rfl), (@vO (XK k) iB _ _ _ rfl (by kernel_rfl)), (@vR (XK k) iL rfl), hc, g0, g3, g4, g5])) <;> (try (exfalso; omega))) | (simp -implicitDefEqProofs (maxSteps := 2000000) (disch := first | omega | (simp only [ac, ae, ab]; first | done | omega)) only [push_cast, seval, (@vS (XK k) mZ ki pX rfl), (@vO (XK k) mZ _ _ _ rfl (by kernel_rfl)), (@vS (XK k) mJ kk ki rfl), (@vO (XK k) mJ _ _ _ rfl (by kernel_rfl)), (@vS (XK k) jH fP kk rfl), (@vS (XK k) mX kT jH rfl), (@vO (XK k) mX _ _ _ rfl (by kernel_rfl)), (@vB (XK k) kX kT 0 rfl), (@vL (XK k) kh kX rfl), (@vS (XK k) gc gQ kh rfl), (@vS (XK k) iJ fG gc rfl), (@vO (XK k) iJ _ _ _ rfl (by kernel_rfl)), (@vC (XK k) iw iG fG (.tmp 9) rfl), (@vK (XK k) iw rfl), (@vE (XK k) iG 0 rfl), (@vB (XK k) fT gQ 1 rfl), (@vS (XK k) fU fK fT rfl), (@vS (XK k) iC f3 fU rfl), (@vO (XK k) iC _ _ _ rfl (by kernel_rfl)), (@vC (XK k) fY ix f3 (.tmp 15) rfl), (@vS (XK k) iO fH fY rfl), (@vO (XK k) iO _ _ _ rfl (by kernel_rfl)), (@vS (XK k) iz iF fH rfl), (@vO (XK k) iz _ _ _ rfl (by kernel_rfl)), (@vE (XK k) iF 1 rfl), (@vK (XK k) ix rfl), (@vS (XK k) iQ fL fK rfl), (@vO (XK k) iQ _ _ _ rfl (by kernel_rfl)), (@vS (XK k) gY jn fL rfl), (@vB (XK k) hZ gY 2 rfl), (@vL (XK k) fX hZ rfl), (@vS (XK k) fF fO fX rfl), (@vS (XK k) iE ga fF rfl), (@vO (XK k) iE _ _ _ rfl (by kernel_rfl)), (@vC (XK k) iD iP ga (.tmp 36) rfl), (@vK (XK k) iD rfl), (@vE (XK k) iP 2 rfl), (@vS (XK k) gV iy fO rfl), (@vB (XK k) iT gV 3 rfl), (@vO (XK k) iT _ _ _ rfl (by kernel_rfl)), (@vO (XK k) iy _ _ _ rfl (by kernel_rfl)), (@vO (XK k) oU _ _ _ rfl (by kernel_rfl)), (@vC (XK k) iH iI lA (.tmp 48) rfl), (@vO (XK k) iH _ _ _ rfl (by kernel_rfl)), (@vK (XK k) iI rfl), (@vS (XK k) iB iL fP rfl), (@vO (XK k) iB _ _ _ rfl (by kernel_rfl)), (@vR (XK k) iL rfl), g0, g3, g4, g5]))
        all_goals (try (exfalso; omega))
        refine fin _ (by omega) (by (((try simp -implicitDefEqProofs only [aw, aq, au.get_set, ar, List.getD_cons_zero, List.getD_cons_succ, ↓reduceIte, reduceCtorEq, Nat.reduceEqDiff]); try (first | (with_reducible assumption) | (with_reducible rfl) | (congr 2 <;> omega) | rfl)))) (by (((try simp -implicitDefEqProofs only [aw, aq, au.get_set, ar, List.getD_cons_zero, List.getD_cons_succ, ↓reduceIte, reduceCtorEq, Nat.reduceEqDiff]); try (first | (with_reducible assumption) | (with_reducible rfl) | (congr 2 <;> omega) | rfl)))) (by (((try simp -implicitDefEqProofs only [aw, aq, au.get_set, ar, List.getD_cons_zero, List.getD_cons_succ, ↓reduceIte, reduceCtorEq, Nat.reduceEqDiff]); try (first | (with_reducible assumption) | (with_reducible rfl) | (congr 2 <;> omega) | rfl)))) (by (((try simp -implicitDefEqProofs only [aw, aq, au.get_set, ar, List.getD_cons_zero, List.getD_cons_succ, ↓reduceIte, reduceCtorEq, Nat.reduceEqDiff]); try (first | (with_reducible assumption) | (with_reducible rfl) | (congr 2 <;> omega) | rfl)))) hbb fun ρ2 s3 v3 e0 e3 e4 hG hKp => ?_
        (try (simp -implicitDefEqProofs (maxSteps := 2000000) (disch := first | omega | (simp only [ac, ae, ab]; first | done | omega)) only [push_cast, seval, ed, ee, eb, ec, d8])) <;> (repeat' ((first | apply ao | apply aj | apply am | apply al | apply an | apply ak | apply ai | apply ag | apply ah) <;> intro hc <;> try (simp -implicitDefEqProofs (maxSteps := 2000000) (disch := first | omega | (simp only [ac, ae, ab]; first | done | omega)) only [push_cast, seval, ed, ee, eb, ec, d8, hc])))
        exact ⟨_ - j, by omega, j, v3, rfl, hj, hbb, e0, e3, e4, hG, hKp⟩
    · have hs1 : sk1 o = [o] := by unfold sk1; rw [if_pos h0]
      have hsk : eR (l.take (i + 1)) = eR (l.take i) ++ [o] := by
        unfold eR
        rw [aV he, TV h0]
        simp [hs1]
      repeat' (first | ((first | apply ao | apply aj | apply am | apply al | apply an | apply ak | apply ai | apply ag | apply ah) <;> intro hc <;> (try (simp -implicitDefEqProofs (maxSteps := 2000000) (disch := first | omega | (simp only [ac, ae, ab]; first | done | omega)) only [push_cast, seval, ed, ee, eb, ec, d8, hc, g0, g3, g4, he, eO, h0])) <;> (try (exfalso; omega))) | (simp -implicitDefEqProofs (maxSteps := 2000000) (disch := first | omega | (simp only [ac, ae, ab]; first | done | omega)) only [push_cast, seval, ed, ee, eb, ec, d8, g0, g3, g4, he, eO, h0]))
      refine Gw.step (sz := 4) (k1.push _) (by (repeat first | assumption | exact af.refl _ | apply af.push | refine af.set ?_ (by first | omega | (simp only [ac, ae, ab]; omega) | (have h9 := af.size_le (by assumption); (try simp only [ac, ae, ab] at *); omega)) _ | refine af.drop ?_ (by first | omega | (simp only [ac, ae, ab]; omega) | (have h9 := af.size_le (by assumption); (try simp only [ac, ae, ab] at *); omega)) | refine af.trans ?_ (by assumption))) rfl rfl rfl (cp (by constructor <;> (try dsimp only) <;> omega)) ?_
      intro v2 sN hg _ _ hkp
      (try (simp -implicitDefEqProofs (maxSteps := 2000000) (disch := first | omega | (simp only [ac, ae, ab]; first | done | omega)) only [push_cast, seval, ed, ee, eb, ec, d8, g0, g3, g4])) <;> (repeat' ((first | apply ao | apply aj | apply am | apply al | apply an | apply ak | apply ai | apply ag | apply ah) <;> intro hc <;> try (simp -implicitDefEqProofs (maxSteps := 2000000) (disch := first | omega | (simp only [ac, ae, ab]; first | done | omega)) only [push_cast, seval, ed, ee, eb, ec, d8, hc, g0, g3, g4])))
      all_goals (try (exfalso; omega))
      refine ⟨_ - (i + 1), by omega, i + 1, v2, rfl, by omega, fun x y hy hx h => ?_, rfl, congrArg (fun z => AV.c (.int .i64 z)) (by omega), ?_, hkp⟩
      · rw [aV he] at hx
        simp at hx
        subst hx
        exact h0 h.1
      · rw [hsk]
        exact hg.cast (by simp) (by simp [eO])
  · have hi2 : i = l.length := by omega
    subst hi2
    rw [List.take_length] at k1
    repeat' (first | ((first | apply ao | apply aj | apply am | apply al | apply an | apply ak | apply ai | apply ag | apply ah) <;> intro hc <;> (try (simp -implicitDefEqProofs (maxSteps := 2000000) (disch := first | omega | (simp only [ac, ae, ab]; first | done | omega)) only [push_cast, seval, ed, ee, eb, ec, d8, hc, g0, g3, g4])) <;> (try (exfalso; omega))) | (simp -implicitDefEqProofs (maxSteps := 2000000) (disch := first | omega | (simp only [ac, ae, ab]; first | done | omega)) only [push_cast, seval, ed, ee, eb, ec, d8, g0, g3, g4]))
    all_goals (try (exfalso; omega))
    exact k1.outm k2 jq ez (by omega)
end
end Go.Proofs.YticllcglldbffaaDoor.Ab
