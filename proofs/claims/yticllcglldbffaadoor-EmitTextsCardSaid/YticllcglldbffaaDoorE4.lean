import Derived.Test.YticllcglldbffaaDoorE3
import Derived.Test.YticllcglldbffaaDoorG3
import Derived.Test.YticllcglldbffaaDoorDE
namespace Go.Proofs.YticllcglldbffaaDoor.Ab
open Go.Proofs
set_option maxRecDepth 100000
set_option maxHeartbeats 4000000
set_option linter.unusedSimpArgs false
set_option linter.unusedVariables false
set_option linter.unnecessarySimpa false
set_option linter.unusedSectionVars false
def eO (o : Ot) : List AV := [.c (.int .i64 o.1), .c (.int .i64 o.2.1), .c (.int .i64 o.2.2.1), tx o.2.2.2]
theorem jq (o : Ot) : (eO o).length = 4 := rfl
theorem pi (o : Ot) : (eO o).all ie = true := rfl
theorem ez (o : Ot) : aN (eO o) := aN.cons (az.c _) (aN.cons (az.c _) (aN.cons (az.c _) (aN.cons (az.c _) aN.nil)))
@[reducible] def LO (l : List Ot) : AV := .lst 4 (l.map eO)
theorem az.LO (l : List Ot) : az (LO l) := az.lstm ez
def GD (kind : Int) : Int × Int := if kind = 1 then (1, 1000) else if kind = 4 then (0, 7) else (0, 1)
theorem jx {kd n m : Int} {t : List UInt8} (k0 : kd ≠ 0) : aW (kd, n, m, t) = true ↔ t = [] ∧ ((kd = 1 ∧ 1 ≤ n ∧ n ≤ 1000 ∧ 1 ≤ m ∧ m ≤ 1000) ∨ (kd ≠ 1 ∧ m = 0 ∧ ((kd = 4 ∧ 0 ≤ n ∧ n ≤ 7) ∨ (kd = 5 ∧ (n = 0 ∨ n = 1)) ∨ (kd ≠ 4 ∧ kd ≠ 5 ∧ n = 0 ∧ 2 ≤ kd ∧ kd ≤ 8)))) := by
  unfold aW
  simp only [if_neg k0, Bool.and_eq_true, decide_eq_true_eq]
  refine and_congr_right fun _ => ?_
  by_cases k1 : kd = 1
  · simp only [if_pos k1, Bool.and_eq_true, decide_eq_true_eq]
    constructor
    · rintro ⟨⟨a, b⟩, c, d⟩; exact .inl ⟨k1, a, b, c, d⟩
    · rintro (⟨_, a, b, c, d⟩ | ⟨h, _⟩)
      · exact ⟨⟨a, b⟩, c, d⟩
      · exact absurd k1 h
  · simp only [if_neg k1, Bool.and_eq_true, decide_eq_true_eq]
    by_cases k4 : kd = 4
    · simp only [if_pos k4, Bool.and_eq_true, decide_eq_true_eq]
      omega
    · by_cases k5 : kd = 5
      · simp only [if_neg k4, if_pos k5, Bool.or_eq_true, decide_eq_true_eq]
        omega
      · simp only [if_neg k4, if_neg k5, Bool.and_eq_true, decide_eq_true_eq]
        omega
section
variable {k : Nat → List Value → Option Value} (hk : ∀ f, f ≠ 105 → f ≠ 149 → ax k f)
include hk
theorem uZ (s : List UInt8) (hs : s.length < 1000000) : PC (XK k) 84 [tx s] (.c (.int .i64 (bi s))) := by
  refine aI fun st => ?_
  refine asD (hk _ (by decide) (by decide)) ?_
  (try (simp -implicitDefEqProofs (maxSteps := 2000000) (disch := first | omega | (simp only [ac, ae, ab]; first | done | omega)) only [push_cast, seval, xG, wv, xe, xZ])) <;> (repeat' ((first | apply ao | apply aj | apply am | apply al | apply an | apply ak | apply ai | apply ag | apply ah) <;> intro hc <;> try (simp -implicitDefEqProofs (maxSteps := 2000000) (disch := first | omega | (simp only [ac, ae, ab]; first | done | omega)) only [push_cast, seval, xG, wv, xe, xZ, hc])))
  refine aM (fun m ρ s' => ∃ n : Nat, m = s.length - n ∧ n ≤ s.length ∧ bi s = n + bi (s.drop n) ∧ ρ.get 0 = tx s ∧ ρ.get 3 = .c (.int .i64 n) ∧ s' = st) s.length
    ⟨0, rfl, Nat.zero_le _, by simp, by (((try simp -implicitDefEqProofs only [aw, aq, au.get_set, ar, List.getD_cons_zero, List.getD_cons_succ, ↓reduceIte, reduceCtorEq, Nat.reduceEqDiff]); try (first | (with_reducible assumption) | (with_reducible rfl) | (congr 2 <;> omega) | rfl))), by (((try simp -implicitDefEqProofs only [aw, aq, au.get_set, ar, List.getD_cons_zero, List.getD_cons_succ, ↓reduceIte, reduceCtorEq, Nat.reduceEqDiff]); try (first | (with_reducible assumption) | (with_reducible rfl) | (congr 2 <;> omega) | rfl))), rfl⟩ ?_
  rintro m ρ s' ⟨n, rfl, hn, hp, g0, g3, rfl⟩
  by_cases hc : n < s.length
  · have hne : s.drop n ≠ [] := fun e => by have := List.drop_eq_nil_iff.1 e; omega
    have hos := bI hne
    rw [List.length_drop] at hos
    have hon := at9 hk (s.drop n) hne (by rw [List.length_drop]; omega)
    have htk : List.take (s.length - n) (List.drop n s) = s.drop n := List.take_of_length_le (by rw [List.length_drop]; omega)
    have htk2 : List.take s.length s = s := List.take_length
    have hcl := cls (aU (s.drop n)).1
    rw [dH hne] at hp
    have hok : okV (aU (s.drop n)).1 = (decide (1 ≤ aB (aU (s.drop n)).1) && decide (aB (aU (s.drop n)).1 ≤ 3)) := rfl
    rw [List.drop_drop] at hp
    generalize (aU (s.drop n)).1 = v at *
    generalize (aU (s.drop n)).2 = z at *
    repeat' (first | ((first | apply ao | apply aj | apply am | apply al | apply an | apply ak | apply ai | apply ag | apply ah) <;> intro hc <;> (try (simp -implicitDefEqProofs (maxSteps := 2000000) (disch := first | omega | (simp only [ac, ae, ab]; first | done | omega)) only [push_cast, seval, xG, wv, xe, xZ, hc, g0, g3, htk, htk2])) <;> (try (exfalso; omega))) | refine ap (hon) ?_ | refine ap (m9 hk v) ?_ | (simp -implicitDefEqProofs (maxSteps := 2000000) (disch := first | omega | (simp only [ac, ae, ab]; first | done | omega)) only [push_cast, seval, xG, wv, xe, xZ, g0, g3, htk, htk2]))
    · have h1 : okV v = true := by rw [hok]; simp; omega
      rw [if_pos h1] at hp
      exact ⟨_ - (n + z), by omega, n + z, rfl, by omega, by omega, by congr 2⟩
    · have h1 : okV v = true := by rw [hok]; simp; omega
      rw [if_pos h1] at hp
      exact ⟨_ - (n + z), by omega, n + z, rfl, by omega, by omega, by congr 2⟩
    · have h1 : okV v = true := by rw [hok]; simp; omega
      rw [if_pos h1] at hp
      exact ⟨_ - (n + z), by omega, n + z, rfl, by omega, by omega, by congr 2⟩
    · have h1 : ¬ okV v = true := by rw [hok]; simp; omega
      rw [if_neg h1] at hp
      exact aD (by (repeat first | assumption | exact af.refl _ | apply af.push | refine af.set ?_ (by first | omega | (simp only [ac, ae, ab]; omega) | (have h9 := af.size_le (by assumption); (try simp only [ac, ae, ab] at *); omega)) _ | refine af.drop ?_ (by first | omega | (simp only [ac, ae, ab]; omega) | (have h9 := af.size_le (by assumption); (try simp only [ac, ae, ab] at *); omega)) | refine af.trans ?_ (by assumption))) (by omega)
  · obtain rfl : n = s.length := by omega
    repeat' (first | ((first | apply ao | apply aj | apply am | apply al | apply an | apply ak | apply ai | apply ag | apply ah) <;> intro hc <;> (try (simp -implicitDefEqProofs (maxSteps := 2000000) (disch := first | omega | (simp only [ac, ae, ab]; first | done | omega)) only [push_cast, seval, xG, wv, xe, xZ, hc, g0, g3])) <;> (try (exfalso; omega))) | (simp -implicitDefEqProofs (maxSteps := 2000000) (disch := first | omega | (simp only [ac, ae, ab]; first | done | omega)) only [push_cast, seval, xG, wv, xe, xZ, g0, g3]))
    all_goals (try (exfalso; omega))
    rw [List.drop_length, d3, Nat.add_zero] at hp
    exact aD (by (repeat first | assumption | exact af.refl _ | apply af.push | refine af.set ?_ (by first | omega | (simp only [ac, ae, ab]; omega) | (have h9 := af.size_le (by assumption); (try simp only [ac, ae, ab] at *); omega)) _ | refine af.drop ?_ (by first | omega | (simp only [ac, ae, ab]; omega) | (have h9 := af.size_le (by assumption); (try simp only [ac, ae, ab] at *); omega)) | refine af.trans ?_ (by assumption))) (by omega)
theorem wY (kind : Int) : PC (XK k) 85 [.c (.int .i64 kind)] (.tup [.c (.int .i64 (GD kind).1), .c (.int .i64 (GD kind).2)]) := by
  refine aI fun st => ?_
  refine asT (hk _ (by decide) (by decide)) ?_
  unfold GD
  by_cases k1 : kind = 1
  · subst k1
    repeat' (first | ((first | apply ao | apply aj | apply am | apply al | apply an | apply ak | apply ai | apply ag | apply ah) <;> intro hc <;> (try (simp -implicitDefEqProofs (maxSteps := 2000000) (disch := first | omega | (simp only [ac, ae, ab]; first | done | omega)) only [push_cast, seval, xi, xk, hc])) <;> (try (exfalso; omega))) | (simp -implicitDefEqProofs (maxSteps := 2000000) (disch := first | omega | (simp only [ac, ae, ab]; first | done | omega)) only [push_cast, seval, xi, xk]))
    exact bH (by (repeat first | assumption | exact af.refl _ | apply af.push | refine af.set ?_ (by first | omega | (simp only [ac, ae, ab]; omega) | (have h9 := af.size_le (by assumption); (try simp only [ac, ae, ab] at *); omega)) _ | refine af.drop ?_ (by first | omega | (simp only [ac, ae, ab]; omega) | (have h9 := af.size_le (by assumption); (try simp only [ac, ae, ab] at *); omega)) | refine af.trans ?_ (by assumption))) rfl (az.tup (all_cons (az.c _) (all_cons (az.c _) all_nil)))
  · by_cases k4 : kind = 4
    · subst k4
      repeat' (first | ((first | apply ao | apply aj | apply am | apply al | apply an | apply ak | apply ai | apply ag | apply ah) <;> intro hc <;> (try (simp -implicitDefEqProofs (maxSteps := 2000000) (disch := first | omega | (simp only [ac, ae, ab]; first | done | omega)) only [push_cast, seval, xi, xk, hc])) <;> (try (exfalso; omega))) | (simp -implicitDefEqProofs (maxSteps := 2000000) (disch := first | omega | (simp only [ac, ae, ab]; first | done | omega)) only [push_cast, seval, xi, xk]))
      exact bH (by (repeat first | assumption | exact af.refl _ | apply af.push | refine af.set ?_ (by first | omega | (simp only [ac, ae, ab]; omega) | (have h9 := af.size_le (by assumption); (try simp only [ac, ae, ab] at *); omega)) _ | refine af.drop ?_ (by first | omega | (simp only [ac, ae, ab]; omega) | (have h9 := af.size_le (by assumption); (try simp only [ac, ae, ab] at *); omega)) | refine af.trans ?_ (by assumption))) rfl (az.tup (all_cons (az.c _) (all_cons (az.c _) all_nil)))
    · rw [if_neg k1, if_neg k4]
      repeat' (first | ((first | apply ao | apply aj | apply am | apply al | apply an | apply ak | apply ai | apply ag | apply ah) <;> intro hc <;> (try (simp -implicitDefEqProofs (maxSteps := 2000000) (disch := first | omega | (simp only [ac, ae, ab]; first | done | omega)) only [push_cast, seval, xi, xk, hc, k1, k4])) <;> (try (exfalso; omega))) | (simp -implicitDefEqProofs (maxSteps := 2000000) (disch := first | omega | (simp only [ac, ae, ab]; first | done | omega)) only [push_cast, seval, xi, xk, k1, k4]))
      exact bH (by (repeat first | assumption | exact af.refl _ | apply af.push | refine af.set ?_ (by first | omega | (simp only [ac, ae, ab]; omega) | (have h9 := af.size_le (by assumption); (try simp only [ac, ae, ab] at *); omega)) _ | refine af.drop ?_ (by first | omega | (simp only [ac, ae, ab]; omega) | (have h9 := af.size_le (by assumption); (try simp only [ac, ae, ab] at *); omega)) | refine af.trans ?_ (by assumption))) rfl (az.tup (all_cons (az.c _) (all_cons (az.c _) all_nil)))
theorem ug (o : Ot) (hl : o.2.2.2.length < 1000000) : PC (XK k) 53 [.agg (eO o)] (.c (.bool (aW o))) := by
  refine aI fun st => ?_
  refine au1 (hk _ (by decide) (by decide)) ?_
  obtain ⟨kd, n, m, t⟩ := o
  have hpf := HF t
  have hpl := lQ t
  simp only at hl
  have hall : (a8 t).all okV = decide (bi t = t.length) := by
    rw [Bool.eq_iff_iff, ← hpf, decide_eq_true_eq]
  by_cases k0 : kd = 0
  · subst k0
    by_cases ht : t = []
    · subst ht
      repeat' (first | ((first | apply ao | apply aj | apply am | apply al | apply an | apply ak | apply ai | apply ag | apply ah) <;> intro hc <;> (try (simp -implicitDefEqProofs (maxSteps := 2000000) (disch := first | omega | (simp only [ac, ae, ab]; first | done | omega)) only [push_cast, seval, xD, xt, xY, xg, xn, wu, wC, wJ, xX, hc, eO, BEq.rfl])) <;> (try (exfalso; omega))) | refine ap (uZ hk [] hl) ?_ | (simp -implicitDefEqProofs (maxSteps := 2000000) (disch := first | omega | (simp only [ac, ae, ab]; first | done | omega)) only [push_cast, seval, xD, xt, xY, xg, xn, wu, wC, wJ, xX, eO, BEq.rfl]))
      exact aK (by (repeat first | assumption | exact af.refl _ | apply af.push | refine af.set ?_ (by first | omega | (simp only [ac, ae, ab]; omega) | (have h9 := af.size_le (by assumption); (try simp only [ac, ae, ab] at *); omega)) _ | refine af.drop ?_ (by first | omega | (simp only [ac, ae, ab]; omega) | (have h9 := af.size_le (by assumption); (try simp only [ac, ae, ab] at *); omega)) | refine af.trans ?_ (by assumption))) (by simp [aW])
    · have ht2 : (t == []) = false := by simpa using ht
      repeat' (first | ((first | apply ao | apply aj | apply am | apply al | apply an | apply ak | apply ai | apply ag | apply ah) <;> intro hc <;> (try (simp -implicitDefEqProofs (maxSteps := 2000000) (disch := first | omega | (simp only [ac, ae, ab]; first | done | omega)) only [push_cast, seval, xD, xt, xY, xg, xn, wu, wC, wJ, xX, hc, eO, ht2])) <;> (try (exfalso; omega))) | refine ap (uZ hk t hl) ?_ | (simp -implicitDefEqProofs (maxSteps := 2000000) (disch := first | omega | (simp only [ac, ae, ab]; first | done | omega)) only [push_cast, seval, xD, xt, xY, xg, xn, wu, wC, wJ, xX, eO, ht2]))
      · have : ¬ bi t = t.length := by omega
        refine aK (by (repeat first | assumption | exact af.refl _ | apply af.push | refine af.set ?_ (by first | omega | (simp only [ac, ae, ab]; omega) | (have h9 := af.size_le (by assumption); (try simp only [ac, ae, ab] at *); omega)) _ | refine af.drop ?_ (by first | omega | (simp only [ac, ae, ab]; omega) | (have h9 := af.size_le (by assumption); (try simp only [ac, ae, ab] at *); omega)) | refine af.trans ?_ (by assumption))) ?_
        unfold aW
        simp only [if_true, hall]
        simp [this]
      · have : bi t = t.length := by omega
        refine aK (by (repeat first | assumption | exact af.refl _ | apply af.push | refine af.set ?_ (by first | omega | (simp only [ac, ae, ab]; omega) | (have h9 := af.size_le (by assumption); (try simp only [ac, ae, ab] at *); omega)) _ | refine af.drop ?_ (by first | omega | (simp only [ac, ae, ab]; omega) | (have h9 := af.size_le (by assumption); (try simp only [ac, ae, ab] at *); omega)) | refine af.trans ?_ (by assumption))) ?_
        unfold aW
        simp only [if_true, hall]
        simp [this, ht]
  · have b11 : (GD 1).1 = 1 := rfl
    have b12 : (GD 1).2 = 1000 := rfl
    have b41 : (GD 4).1 = 0 := rfl
    have b42 : (GD 4).2 = 7 := rfl
    have b51 : (GD 5).1 = 0 := rfl
    have b52 : (GD 5).2 = 1 := rfl
    repeat' (first | ((first | apply ao | apply aj | apply am | apply al | apply an | apply ak | apply ai | apply ag | apply ah) <;> intro hc <;> (try (simp -implicitDefEqProofs (maxSteps := 2000000) (disch := first | omega | (simp only [ac, ae, ab]; first | done | omega)) only [push_cast, seval, xD, xt, xY, xg, xn, wu, wC, wJ, xX, hc, eO, k0, b11, b12, b41, b42, b51, b52])) <;> (try (exfalso; omega))) | refine ap (wY hk _) ?_ | (simp -implicitDefEqProofs (maxSteps := 2000000) (disch := first | omega | (simp only [ac, ae, ab]; first | done | omega)) only [push_cast, seval, xD, xt, xY, xg, xn, wu, wC, wJ, xX, eO, k0, b11, b12, b41, b42, b51, b52]))
    all_goals refine aK (by (repeat first | assumption | exact af.refl _ | apply af.push | refine af.set ?_ (by first | omega | (simp only [ac, ae, ab]; omega) | (have h9 := af.size_le (by assumption); (try simp only [ac, ae, ab] at *); omega)) _ | refine af.drop ?_ (by first | omega | (simp only [ac, ae, ab]; omega) | (have h9 := af.size_le (by assumption); (try simp only [ac, ae, ab] at *); omega)) | refine af.trans ?_ (by assumption))) ?_
    all_goals rw [Bool.eq_iff_iff, jx (by omega)]
    all_goals simp
    all_goals (try omega)
    all_goals (by_cases ht : t = [] <;> simp only [ht, true_and, and_true, and_false, false_and, true_implies, false_implies, iff_self] <;> (try omega))
theorem xp (n : Int) (h0 : 0 ≤ n) (h1 : n ≤ 7) : PC (XK k) 88 [.c (.int .i64 n)] (tx (aZ n)) := by
  refine aI fun st => ?_
  refine at0 (hk _ (by decide) (by decide)) ?_
  have : n = 0 ∨ n = 1 ∨ n = 2 ∨ n = 3 ∨ n = 4 ∨ n = 5 ∨ n = 6 ∨ n = 7 := by omega
  rcases this with rfl | rfl | rfl | rfl | rfl | rfl | rfl | rfl
  · have b1 : bS .and .i64 0 1 = some 0 := by decide
    have b2 : bS .and .i64 0 2 = some 0 := by decide
    have b4 : bS .and .i64 0 4 = some 0 := by decide
    repeat' (first | ((first | apply ao | apply aj | apply am | apply al | apply an | apply ak | apply ai | apply ag | apply ah) <;> intro hc <;> (try (simp -implicitDefEqProofs (maxSteps := 2000000) (disch := first | omega | (simp only [ac, ae, ab]; first | done | omega)) only [push_cast, seval, gy, gp, gx, hc, b1, b2, b4])) <;> (try (exfalso; omega))) | (simp -implicitDefEqProofs (maxSteps := 2000000) (disch := first | omega | (simp only [ac, ae, ab]; first | done | omega)) only [push_cast, seval, gy, gp, gx, b1, b2, b4]))
    exact ba (by (repeat first | assumption | exact af.refl _ | apply af.push | refine af.set ?_ (by first | omega | (simp only [ac, ae, ab]; omega) | (have h9 := af.size_le (by assumption); (try simp only [ac, ae, ab] at *); omega)) _ | refine af.drop ?_ (by first | omega | (simp only [ac, ae, ab]; omega) | (have h9 := af.size_le (by assumption); (try simp only [ac, ae, ab] at *); omega)) | refine af.trans ?_ (by assumption))) (by decide)
  · have b1 : bS .and .i64 1 1 = some 1 := by decide
    have b2 : bS .and .i64 1 2 = some 0 := by decide
    have b4 : bS .and .i64 1 4 = some 0 := by decide
    repeat' (first | ((first | apply ao | apply aj | apply am | apply al | apply an | apply ak | apply ai | apply ag | apply ah) <;> intro hc <;> (try (simp -implicitDefEqProofs (maxSteps := 2000000) (disch := first | omega | (simp only [ac, ae, ab]; first | done | omega)) only [push_cast, seval, gy, gp, gx, hc, b1, b2, b4])) <;> (try (exfalso; omega))) | (simp -implicitDefEqProofs (maxSteps := 2000000) (disch := first | omega | (simp only [ac, ae, ab]; first | done | omega)) only [push_cast, seval, gy, gp, gx, b1, b2, b4]))
    exact ba (by (repeat first | assumption | exact af.refl _ | apply af.push | refine af.set ?_ (by first | omega | (simp only [ac, ae, ab]; omega) | (have h9 := af.size_le (by assumption); (try simp only [ac, ae, ab] at *); omega)) _ | refine af.drop ?_ (by first | omega | (simp only [ac, ae, ab]; omega) | (have h9 := af.size_le (by assumption); (try simp only [ac, ae, ab] at *); omega)) | refine af.trans ?_ (by assumption))) (by decide)
  · have b1 : bS .and .i64 2 1 = some 0 := by decide
    have b2 : bS .and .i64 2 2 = some 2 := by decide
    have b4 : bS .and .i64 2 4 = some 0 := by decide
    repeat' (first | ((first | apply ao | apply aj | apply am | apply al | apply an | apply ak | apply ai | apply ag | apply ah) <;> intro hc <;> (try (simp -implicitDefEqProofs (maxSteps := 2000000) (disch := first | omega | (simp only [ac, ae, ab]; first | done | omega)) only [push_cast, seval, gy, gp, gx, hc, b1, b2, b4])) <;> (try (exfalso; omega))) | (simp -implicitDefEqProofs (maxSteps := 2000000) (disch := first | omega | (simp only [ac, ae, ab]; first | done | omega)) only [push_cast, seval, gy, gp, gx, b1, b2, b4]))
    exact ba (by (repeat first | assumption | exact af.refl _ | apply af.push | refine af.set ?_ (by first | omega | (simp only [ac, ae, ab]; omega) | (have h9 := af.size_le (by assumption); (try simp only [ac, ae, ab] at *); omega)) _ | refine af.drop ?_ (by first | omega | (simp only [ac, ae, ab]; omega) | (have h9 := af.size_le (by assumption); (try simp only [ac, ae, ab] at *); omega)) | refine af.trans ?_ (by assumption))) (by decide)
  · have b1 : bS .and .i64 3 1 = some 1 := by decide
    have b2 : bS .and .i64 3 2 = some 2 := by decide
    have b4 : bS .and .i64 3 4 = some 0 := by decide
    repeat' (first | ((first | apply ao | apply aj | apply am | apply al | apply an | apply ak | apply ai | apply ag | apply ah) <;> intro hc <;> (try (simp -implicitDefEqProofs (maxSteps := 2000000) (disch := first | omega | (simp only [ac, ae, ab]; first | done | omega)) only [push_cast, seval, gy, gp, gx, hc, b1, b2, b4])) <;> (try (exfalso; omega))) | (simp -implicitDefEqProofs (maxSteps := 2000000) (disch := first | omega | (simp only [ac, ae, ab]; first | done | omega)) only [push_cast, seval, gy, gp, gx, b1, b2, b4]))
    exact ba (by (repeat first | assumption | exact af.refl _ | apply af.push | refine af.set ?_ (by first | omega | (simp only [ac, ae, ab]; omega) | (have h9 := af.size_le (by assumption); (try simp only [ac, ae, ab] at *); omega)) _ | refine af.drop ?_ (by first | omega | (simp only [ac, ae, ab]; omega) | (have h9 := af.size_le (by assumption); (try simp only [ac, ae, ab] at *); omega)) | refine af.trans ?_ (by assumption))) (by decide)
  · have b1 : bS .and .i64 4 1 = some 0 := by decide
    have b2 : bS .and .i64 4 2 = some 0 := by decide
    have b4 : bS .and .i64 4 4 = some 4 := by decide
    repeat' (first | ((first | apply ao | apply aj | apply am | apply al | apply an | apply ak | apply ai | apply ag | apply ah) <;> intro hc <;> (try (simp -implicitDefEqProofs (maxSteps := 2000000) (disch := first | omega | (simp only [ac, ae, ab]; first | done | omega)) only [push_cast, seval, gy, gp, gx, hc, b1, b2, b4])) <;> (try (exfalso; omega))) | (simp -implicitDefEqProofs (maxSteps := 2000000) (disch := first | omega | (simp only [ac, ae, ab]; first | done | omega)) only [push_cast, seval, gy, gp, gx, b1, b2, b4]))
    exact ba (by (repeat first | assumption | exact af.refl _ | apply af.push | refine af.set ?_ (by first | omega | (simp only [ac, ae, ab]; omega) | (have h9 := af.size_le (by assumption); (try simp only [ac, ae, ab] at *); omega)) _ | refine af.drop ?_ (by first | omega | (simp only [ac, ae, ab]; omega) | (have h9 := af.size_le (by assumption); (try simp only [ac, ae, ab] at *); omega)) | refine af.trans ?_ (by assumption))) (by decide)
  · have b1 : bS .and .i64 5 1 = some 1 := by decide
    have b2 : bS .and .i64 5 2 = some 0 := by decide
    have b4 : bS .and .i64 5 4 = some 4 := by decide
    repeat' (first | ((first | apply ao | apply aj | apply am | apply al | apply an | apply ak | apply ai | apply ag | apply ah) <;> intro hc <;> (try (simp -implicitDefEqProofs (maxSteps := 2000000) (disch := first | omega | (simp only [ac, ae, ab]; first | done | omega)) only [push_cast, seval, gy, gp, gx, hc, b1, b2, b4])) <;> (try (exfalso; omega))) | (simp -implicitDefEqProofs (maxSteps := 2000000) (disch := first | omega | (simp only [ac, ae, ab]; first | done | omega)) only [push_cast, seval, gy, gp, gx, b1, b2, b4]))
    exact ba (by (repeat first | assumption | exact af.refl _ | apply af.push | refine af.set ?_ (by first | omega | (simp only [ac, ae, ab]; omega) | (have h9 := af.size_le (by assumption); (try simp only [ac, ae, ab] at *); omega)) _ | refine af.drop ?_ (by first | omega | (simp only [ac, ae, ab]; omega) | (have h9 := af.size_le (by assumption); (try simp only [ac, ae, ab] at *); omega)) | refine af.trans ?_ (by assumption))) (by decide)
  · have b1 : bS .and .i64 6 1 = some 0 := by decide
    have b2 : bS .and .i64 6 2 = some 2 := by decide
    have b4 : bS .and .i64 6 4 = some 4 := by decide
    repeat' (first | ((first | apply ao | apply aj | apply am | apply al | apply an | apply ak | apply ai | apply ag | apply ah) <;> intro hc <;> (try (simp -implicitDefEqProofs (maxSteps := 2000000) (disch := first | omega | (simp only [ac, ae, ab]; first | done | omega)) only [push_cast, seval, gy, gp, gx, hc, b1, b2, b4])) <;> (try (exfalso; omega))) | (simp -implicitDefEqProofs (maxSteps := 2000000) (disch := first | omega | (simp only [ac, ae, ab]; first | done | omega)) only [push_cast, seval, gy, gp, gx, b1, b2, b4]))
    exact ba (by (repeat first | assumption | exact af.refl _ | apply af.push | refine af.set ?_ (by first | omega | (simp only [ac, ae, ab]; omega) | (have h9 := af.size_le (by assumption); (try simp only [ac, ae, ab] at *); omega)) _ | refine af.drop ?_ (by first | omega | (simp only [ac, ae, ab]; omega) | (have h9 := af.size_le (by assumption); (try simp only [ac, ae, ab] at *); omega)) | refine af.trans ?_ (by assumption))) (by decide)
  · have b1 : bS .and .i64 7 1 = some 1 := by decide
    have b2 : bS .and .i64 7 2 = some 2 := by decide
    have b4 : bS .and .i64 7 4 = some 4 := by decide
    repeat' (first | ((first | apply ao | apply aj | apply am | apply al | apply an | apply ak | apply ai | apply ag | apply ah) <;> intro hc <;> (try (simp -implicitDefEqProofs (maxSteps := 2000000) (disch := first | omega | (simp only [ac, ae, ab]; first | done | omega)) only [push_cast, seval, gy, gp, gx, hc, b1, b2, b4])) <;> (try (exfalso; omega))) | (simp -implicitDefEqProofs (maxSteps := 2000000) (disch := first | omega | (simp only [ac, ae, ab]; first | done | omega)) only [push_cast, seval, gy, gp, gx, b1, b2, b4]))
    exact ba (by (repeat first | assumption | exact af.refl _ | apply af.push | refine af.set ?_ (by first | omega | (simp only [ac, ae, ab]; omega) | (have h9 := af.size_le (by assumption); (try simp only [ac, ae, ab] at *); omega)) _ | refine af.drop ?_ (by first | omega | (simp only [ac, ae, ab]; omega) | (have h9 := af.size_le (by assumption); (try simp only [ac, ae, ab] at *); omega)) | refine af.trans ?_ (by assumption))) (by decide)
theorem ahX (o : Ot) (ho : aW o = true) (hl : o.2.2.2.length < 1000000) : PC (XK k) 55 [.agg (eO o)] (tx (aL o)) := by
  refine aI fun st => ?_
  refine atT (hk _ (by decide) (by decide)) ?_
  obtain ⟨kd, n, m, t⟩ := o
  by_cases k0 : kd = 0
  · subst k0
    repeat' (first | ((first | apply ao | apply aj | apply am | apply al | apply an | apply ak | apply ai | apply ag | apply ah) <;> intro hc <;> (try (simp -implicitDefEqProofs (maxSteps := 2000000) (disch := first | omega | (simp only [ac, ae, ab]; first | done | omega)) only [push_cast, seval, mW, mG, m6, mY, mK, mr, hc, eO])) <;> (try (exfalso; omega))) | (simp -implicitDefEqProofs (maxSteps := 2000000) (disch := first | omega | (simp only [ac, ae, ab]; first | done | omega)) only [push_cast, seval, mW, mG, m6, mY, mK, mr, eO]))
    exact ba (by (repeat first | assumption | exact af.refl _ | apply af.push | refine af.set ?_ (by first | omega | (simp only [ac, ae, ab]; omega) | (have h9 := af.size_le (by assumption); (try simp only [ac, ae, ab] at *); omega)) _ | refine af.drop ?_ (by first | omega | (simp only [ac, ae, ab]; omega) | (have h9 := af.size_le (by assumption); (try simp only [ac, ae, ab] at *); omega)) | refine af.trans ?_ (by assumption))) rfl
  · rw [jx k0] at ho
    obtain ⟨rfl, h⟩ := ho
    unfold aL kJ
    by_cases k1 : kd = 1
    · subst k1
      have l1 := (dy (n := n) (by omega) (by omega)).2.1
      have l2 := (dy (n := m) (by omega) (by omega)).2.1
      have e1 : (2 + (aX n).length ≤ 140737488355328) = True := eq_true (by omega)
      have e2 : ((aX n ++ [59]).length + 1 + 1 + (aX m).length ≤ 140737488355328) = True := eq_true (by simp; omega)
      have e3 : ((aX n ++ [59] ++ aX m).length + 1 + 1 + 1 ≤ 140737488355328) = True := eq_true (by simp; omega)
      repeat' (first | ((first | apply ao | apply aj | apply am | apply al | apply an | apply ak | apply ai | apply ag | apply ah) <;> intro hc <;> (try (simp -implicitDefEqProofs (maxSteps := 2000000) (disch := first | omega | (simp only [ac, ae, ab]; first | done | omega)) only [push_cast, seval, mW, mG, m6, mY, mK, mr, hc, eO, e1, e2, e3])) <;> (try (exfalso; omega))) | refine ap (Ej hk n (by omega) (by omega)) ?_ | refine ap (Ej hk m (by omega) (by omega)) ?_ | (simp -implicitDefEqProofs (maxSteps := 2000000) (disch := first | omega | (simp only [ac, ae, ab]; first | done | omega)) only [push_cast, seval, mW, mG, m6, mY, mK, mr, eO, e1, e2, e3]))
      exact ba (by (repeat first | assumption | exact af.refl _ | apply af.push | refine af.set ?_ (by first | omega | (simp only [ac, ae, ab]; omega) | (have h9 := af.size_le (by assumption); (try simp only [ac, ae, ab] at *); omega)) _ | refine af.drop ?_ (by first | omega | (simp only [ac, ae, ab]; omega) | (have h9 := af.size_le (by assumption); (try simp only [ac, ae, ab] at *); omega)) | refine af.trans ?_ (by assumption))) rfl
    · by_cases k4 : kd = 4
      · subst k4
        have l1 : (aZ n).length ≤ 10 := by
          unfold aZ
          (repeat' split) <;> simp
        have e1 : (2 + (aZ n).length ≤ 140737488355328) = True := eq_true (by omega)
        repeat' (first | ((first | apply ao | apply aj | apply am | apply al | apply an | apply ak | apply ai | apply ag | apply ah) <;> intro hc <;> (try (simp -implicitDefEqProofs (maxSteps := 2000000) (disch := first | omega | (simp only [ac, ae, ab]; first | done | omega)) only [push_cast, seval, mW, mG, m6, mY, mK, mr, hc, eO, e1])) <;> (try (exfalso; omega))) | refine ap (xp hk n (by omega) (by omega)) ?_ | (simp -implicitDefEqProofs (maxSteps := 2000000) (disch := first | omega | (simp only [ac, ae, ab]; first | done | omega)) only [push_cast, seval, mW, mG, m6, mY, mK, mr, eO, e1]))
        exact ba (by (repeat first | assumption | exact af.refl _ | apply af.push | refine af.set ?_ (by first | omega | (simp only [ac, ae, ab]; omega) | (have h9 := af.size_le (by assumption); (try simp only [ac, ae, ab] at *); omega)) _ | refine af.drop ?_ (by first | omega | (simp only [ac, ae, ab]; omega) | (have h9 := af.size_le (by assumption); (try simp only [ac, ae, ab] at *); omega)) | refine af.trans ?_ (by assumption))) rfl
      · by_cases k5 : kd = 5
        · subst k5
          repeat' (first | ((first | apply ao | apply aj | apply am | apply al | apply an | apply ak | apply ai | apply ag | apply ah) <;> intro hc <;> (try (simp -implicitDefEqProofs (maxSteps := 2000000) (disch := first | omega | (simp only [ac, ae, ab]; first | done | omega)) only [push_cast, seval, mW, mG, m6, mY, mK, mr, hc, eO])) <;> (try (exfalso; omega))) | (simp -implicitDefEqProofs (maxSteps := 2000000) (disch := first | omega | (simp only [ac, ae, ab]; first | done | omega)) only [push_cast, seval, mW, mG, m6, mY, mK, mr, eO]))
          · exact ba (by (repeat first | assumption | exact af.refl _ | apply af.push | refine af.set ?_ (by first | omega | (simp only [ac, ae, ab]; omega) | (have h9 := af.size_le (by assumption); (try simp only [ac, ae, ab] at *); omega)) _ | refine af.drop ?_ (by first | omega | (simp only [ac, ae, ab]; omega) | (have h9 := af.size_le (by assumption); (try simp only [ac, ae, ab] at *); omega)) | refine af.trans ?_ (by assumption))) rfl
          · refine ba (by (repeat first | assumption | exact af.refl _ | apply af.push | refine af.set ?_ (by first | omega | (simp only [ac, ae, ab]; omega) | (have h9 := af.size_le (by assumption); (try simp only [ac, ae, ab] at *); omega)) _ | refine af.drop ?_ (by first | omega | (simp only [ac, ae, ab]; omega) | (have h9 := af.size_le (by assumption); (try simp only [ac, ae, ab] at *); omega)) | refine af.trans ?_ (by assumption))) ?_
            simp [hc]
        · have : kd = 2 ∨ kd = 3 ∨ kd = 6 ∨ kd = 7 ∨ kd = 8 := by omega
          rcases this with rfl | rfl | rfl | rfl | rfl
          all_goals repeat' (first | ((first | apply ao | apply aj | apply am | apply al | apply an | apply ak | apply ai | apply ag | apply ah) <;> intro hc <;> (try (simp -implicitDefEqProofs (maxSteps := 2000000) (disch := first | omega | (simp only [ac, ae, ab]; first | done | omega)) only [push_cast, seval, mW, mG, m6, mY, mK, mr, hc, eO])) <;> (try (exfalso; omega))) | (simp -implicitDefEqProofs (maxSteps := 2000000) (disch := first | omega | (simp only [ac, ae, ab]; first | done | omega)) only [push_cast, seval, mW, mG, m6, mY, mK, mr, eO]))
          all_goals exact ba (by (repeat first | assumption | exact af.refl _ | apply af.push | refine af.set ?_ (by first | omega | (simp only [ac, ae, ab]; omega) | (have h9 := af.size_le (by assumption); (try simp only [ac, ae, ab] at *); omega)) _ | refine af.drop ?_ (by first | omega | (simp only [ac, ae, ab]; omega) | (have h9 := af.size_le (by assumption); (try simp only [ac, ae, ab] at *); omega)) | refine af.trans ?_ (by assumption))) rfl
end
end Go.Proofs.YticllcglldbffaaDoor.Ab
