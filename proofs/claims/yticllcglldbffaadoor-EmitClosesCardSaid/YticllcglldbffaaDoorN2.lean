import Derived.Test.YticllcglldbffaaDoorN1
import Derived.Test.YticllcglldbffaaDoorL1
namespace Go.Proofs.YticllcglldbffaaDoor.Ab
open Go.Proofs
set_option maxRecDepth 100000
set_option maxHeartbeats 4000000
set_option linter.unusedSimpArgs false
set_option linter.unusedVariables false
set_option linter.unnecessarySimpa false
set_option linter.unusedSectionVars false
section
variable {k : Nat → List Value → Option Value} (hk : ∀ f, f ≠ 105 → f ≠ 149 → ax k f)
include hk
theorem lf (n : Nat) (h : n < 16) : PC (XK k) 83 [.c (.int .i64 n)] (tx [dig n]) := by
  refine aI fun s => ?_
  refine atN (hk _ (by decide) (by decide)) ?_
  (try (simp -implicitDefEqProofs (maxSteps := 2000000) (disch := first | omega | (simp only [ac, ae, ab]; first | done | omega)) only [push_cast, seval, an0])) <;> (repeat' ((first | apply ao | apply aj | apply am | apply al | apply an | apply ak | apply ai | apply ag | apply ah) <;> intro hc <;> try (simp -implicitDefEqProofs (maxSteps := 2000000) (disch := first | omega | (simp only [ac, ae, ab]; first | done | omega)) only [push_cast, seval, an0, hc])))
  refine ba (by (repeat first | assumption | exact af.refl _ | apply af.push | refine af.set ?_ (by first | omega | (simp only [ac, ae, ab]; omega) | (have h9 := af.size_le (by assumption); (try simp only [ac, ae, ab] at *); omega)) _ | refine af.drop ?_ (by first | omega | (simp only [ac, ae, ab]; omega) | (have h9 := af.size_le (by assumption); (try simp only [ac, ae, ab] at *); omega)) | refine af.trans ?_ (by assumption))) ?_
  have key : ∀ m : Fin 16, List.drop m.1 (48 :: List.take m.1 [49, 50, 51, 52, 53, 54, 55, 56, 57, 65, 66, 67, 68, 69, 70]) = [dig m.1] := by decide
  exact key ⟨n, h⟩
theorem wG (b : Int) : PC (XK k) 104 [.c (.int .u64 b)] (.fn 126 [] [.fptr [.c (.int .u64 b)] 0]) := by
  refine aI fun s => ?_
  refine akA (hk _ (by decide) (by decide)) ?_
  (try (simp -implicitDefEqProofs (maxSteps := 2000000) (disch := first | omega | (simp only [ac, ae, ab]; first | done | omega)) only [push_cast, seval, ZI])) <;> (repeat' ((first | apply ao | apply aj | apply am | apply al | apply an | apply ak | apply ai | apply ag | apply ah) <;> intro hc <;> try (simp -implicitDefEqProofs (maxSteps := 2000000) (disch := first | omega | (simp only [ac, ae, ab]; first | done | omega)) only [push_cast, seval, ZI, hc])))
  refine ⟨by (repeat first | assumption | exact af.refl _ | apply af.push | refine af.set ?_ (by first | omega | (simp only [ac, ae, ab]; omega) | (have h9 := af.size_le (by assumption); (try simp only [ac, ae, ab] at *); omega)) _ | refine af.drop ?_ (by first | omega | (simp only [ac, ae, ab]; omega) | (have h9 := af.size_le (by assumption); (try simp only [ac, ae, ab] at *); omega)) | refine af.trans ?_ (by assumption)), Se.fn Ses.nil (Ses.cons (Se.box (b := s.size) (e := 114) (by (simp -implicitDefEqProofs (disch := first | omega | (simp only [ac, ae, ab]; first | done | omega)) only [eu, dN, bB, bZ, ef])) (by omega) (Se.c _)) Ses.nil)⟩
theorem uO (b n : Nat) (hb : b = 10 ∨ b = 16) (hn : n < 18446744073709551616) : PC (XK k) 126 [.c (.int .u64 n), .fptr [.c (.int .u64 b)] 0] (tx (dT b n)) := by
  refine aI fun s => ?_
  refine ajC (hk _ (by decide) (by decide)) ?_
  (try (simp -implicitDefEqProofs (maxSteps := 2000000) (disch := first | omega | (simp only [ac, ae, ab]; first | done | omega)) only [push_cast, seval, Ah, E9])) <;> (repeat' ((first | apply ao | apply aj | apply am | apply al | apply an | apply ak | apply ai | apply ag | apply ah) <;> intro hc <;> try (simp -implicitDefEqProofs (maxSteps := 2000000) (disch := first | omega | (simp only [ac, ae, ab]; first | done | omega)) only [push_cast, seval, Ah, E9, hc])))
  refine aM (fun m ρ s' => ∃ (j u : Nat) (w : List UInt8), m = 64 - j ∧ w.length = j ∧ dT b n = dT b u ++ w ∧ (dT b u).length + j ≤ 64 ∧ u < 18446744073709551616 ∧ ρ.get 0 = .c (.int .u64 u) ∧ ρ.get 1 = .fptr [.c (.int .u64 b)] 0 ∧ ρ.get 4 = .ptr ⟨s.size, 0, none⟩ ∧ ρ.get 5 = .c (.int .i64 ((64 : Int) - j)) ∧
    s'.get s.size = some (.own ⟨List.replicate (64 - j) (.c (.int .u8 0)) ++ w.map cB, 135, 0, 0, false⟩) ∧ af s s') 64
    ⟨0, n, [], rfl, rfl, by rw [List.append_nil], by simpa using uN b (by omega) 63 n (by omega), hn, by (((try simp -implicitDefEqProofs only [aw, aq, au.get_set, ar, List.getD_cons_zero, List.getD_cons_succ, ↓reduceIte, reduceCtorEq, Nat.reduceEqDiff]); try (first | (with_reducible assumption) | (with_reducible rfl) | (congr 2 <;> omega) | rfl))), by (((try simp -implicitDefEqProofs only [aw, aq, au.get_set, ar, List.getD_cons_zero, List.getD_cons_succ, ↓reduceIte, reduceCtorEq, Nat.reduceEqDiff]); try (first | (with_reducible assumption) | (with_reducible rfl) | (congr 2 <;> omega) | rfl))), by (((try simp -implicitDefEqProofs only [aw, aq, au.get_set, ar, List.getD_cons_zero, List.getD_cons_succ, ↓reduceIte, reduceCtorEq, Nat.reduceEqDiff]); try (first | (with_reducible assumption) | (with_reducible rfl) | (congr 2 <;> omega) | rfl))), by (((try simp -implicitDefEqProofs only [aw, aq, au.get_set, ar, List.getD_cons_zero, List.getD_cons_succ, ↓reduceIte, reduceCtorEq, Nat.reduceEqDiff]); try (first | (with_reducible assumption) | (with_reducible rfl) | (congr 2 <;> omega) | rfl))), bB rfl, by (repeat first | assumption | exact af.refl _ | apply af.push | refine af.set ?_ (by first | omega | (simp only [ac, ae, ab]; omega) | (have h9 := af.size_le (by assumption); (try simp only [ac, ae, ab] at *); omega)) _ | refine af.drop ?_ (by first | omega | (simp only [ac, ae, ab]; omega) | (have h9 := af.size_le (by assumption); (try simp only [ac, ae, ab] at *); omega)) | refine af.trans ?_ (by assumption))⟩ ?_
  rintro m ρ s' ⟨j, u, w, rfl, hw, hd, hl, hu, g0, g1, g4, g5, j1, hk1⟩
  have hp := uV b u
  have hsz := VS.lt_of_get j1
  have hrep : (List.replicate (64 - j) (AV.c (.int .u8 0)) ++ w.map cB).length = 64 := by simp; omega
  have hst := SN b u (by omega)
  have hidx : ([48, 49, 50, 51, 52, 53, 54, 55, 56, 57, 65, 66, 67, 68, 69, 70] : List UInt8)[u % b]? = some (dig (u % b)) := by
    have key : ∀ m : Fin 16, ([48, 49, 50, 51, 52, 53, 54, 55, 56, 57, 65, 66, 67, 68, 69, 70] : List UInt8)[m.1]? = some (dig m.1) := by decide
    exact key ⟨u % b, by rcases hb with rfl | rfl <;> omega⟩
  obtain ⟨W, hW⟩ : ∃ W, W = dig (u % b) :: w := ⟨_, rfl⟩
  have hWl : W.length = j + 1 := by rw [hW, List.length_cons, hw]
  have hov : List.take (64 - j - 1) (List.replicate (64 - j) (AV.c (.int .u8 0)) ++ w.map cB) ++ [AV.c (.int .u8 ((dig (u % b)).toNat : Int))] ++ List.drop (64 - j - 1 + 1) (List.replicate (64 - j) (AV.c (.int .u8 0)) ++ w.map cB) = List.replicate (64 - j - 1) (AV.c (.int .u8 0)) ++ W.map cB := by
    rw [List.take_append_of_le_length (by rw [List.length_replicate]; omega), List.take_replicate, Nat.min_eq_left (by omega), List.drop_append, List.drop_eq_nil_of_le (by simp; omega), hW]
    simp only [List.length_replicate, List.nil_append, List.append_assoc, List.map_cons, cB]
    rw [show 64 - j - 1 + 1 - (64 - j) = 0 by omega]
    rfl
  have hlen2 : (List.replicate (64 - j - 1) (AV.c (.int .u8 0)) ++ W.map cB).length = 64 := by simp; omega
  have hcut : List.take (64 - (64 - j - 1)) (List.drop (64 - j - 1) (List.replicate (64 - j - 1) (AV.c (.int .u8 0)) ++ W.map cB)) = W.map cB := by
    rw [List.drop_left' (by simp), List.take_of_length_le (by simp; omega)]
  have hst2 : dT b n = (if u / b = 0 then [] else dT b (u / b)) ++ W := by rw [hd, hst, hW]; simp
  have hlt : (64 : Int) - j - 1 = ((64 - j - 1 : Nat) : Int) := by omega
  rcases hb with rfl | rfl
  all_goals
    (try (simp -implicitDefEqProofs (maxSteps := 2000000) (disch := first | omega | (simp only [ac, ae, ab]; first | done | omega)) only [push_cast, seval, Ah, E9, g0, g1, g4, g5, j1, hrep, hidx, hov, hlen2, hcut, hWl])) <;> (repeat' ((first | apply ao | apply aj | apply am | apply al | apply an | apply ak | apply ai | apply ag | apply ah) <;> intro hc <;> try (simp -implicitDefEqProofs (maxSteps := 2000000) (disch := first | omega | (simp only [ac, ae, ab]; first | done | omega)) only [push_cast, seval, Ah, E9, hc, g0, g1, g4, g5, j1, hrep, hidx, hov, hlen2, hcut, hWl])))
    · rw [if_pos (by omega), List.nil_append] at hst2
      exact ba (by (repeat first | assumption | exact af.refl _ | apply af.push | refine af.set ?_ (by first | omega | (simp only [ac, ae, ab]; omega) | (have h9 := af.size_le (by assumption); (try simp only [ac, ae, ab] at *); omega)) _ | refine af.drop ?_ (by first | omega | (simp only [ac, ae, ab]; omega) | (have h9 := af.size_le (by assumption); (try simp only [ac, ae, ab] at *); omega)) | refine af.trans ?_ (by assumption))) hst2.symm
    · rw [if_neg (by omega)] at hst2
      have hll := congrArg List.length hst2
      rw [hd, hst, if_neg (by omega), hW] at hll
      simp only [List.length_append, List.length_cons, List.length_nil] at hll
      rw [hst, if_neg (by omega)] at hl
      simp only [List.length_append, List.length_cons, List.length_nil] at hl
      refine ⟨_ - (j + 1), by omega, j + 1, u / _, W, rfl, hWl, hst2, by omega, by omega, rfl, by congr 2; omega, ?_, by (repeat first | assumption | exact af.refl _ | apply af.push | refine af.set ?_ (by first | omega | (simp only [ac, ae, ab]; omega) | (have h9 := af.size_le (by assumption); (try simp only [ac, ae, ab] at *); omega)) _ | refine af.drop ?_ (by first | omega | (simp only [ac, ae, ab]; omega) | (have h9 := af.size_le (by assumption); (try simp only [ac, ae, ab] at *); omega)) | refine af.trans ?_ (by assumption))⟩
      rw [show 64 - (j + 1) = 64 - j - 1 by omega]
omit hk in
theorem SM {v : Int} (h : right v = true) : 0 ≤ v ∧ v ≤ 1114367 ∧ (v ≤ 1114111 → v < 55296 ∨ 57343 < v) ∧ (¬ v ≤ 1114111 → 1114240 ≤ v) := by
  unfold right at h
  simp only [Bool.or_eq_true, Bool.and_eq_true, decide_eq_true_eq, Bool.not_eq_true', Bool.and_eq_false_iff, decide_eq_false_iff_not] at h
  omega
end
end Go.Proofs.YticllcglldbffaaDoor.Ab
