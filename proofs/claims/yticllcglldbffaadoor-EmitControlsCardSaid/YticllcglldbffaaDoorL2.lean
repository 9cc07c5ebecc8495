import Derived.Test.YticllcglldbffaaDoorL1
namespace Go.Proofs.YticllcglldbffaaDoor.Ab
open Go.Proofs
set_option maxRecDepth 100000
set_option maxHeartbeats 2000000
set_option linter.unusedSimpArgs false
set_option linter.unusedVariables false
set_option linter.unnecessarySimpa false
def xa (g : Nat) : List Value := ((laid.find? (·.1 == g)).map (·.2)).getD []
def RT : List (Int × Int × Int) := tri (xa 1)
def LT : List (Int × Int) := two (xa 2)
theorem adW : xa 1 = RT.flatMap (auD .i32) := by kernel_rfl
theorem W1 : xa 2 = LT.flatMap (asX .i32) := by kernel_rfl
theorem WA : RT.length = 56 := by kernel_rfl
theorem T0 : LT.length = 51 := by kernel_rfl
theorem aa7 : (RT.all fun p => decide (0 ≤ p.1) && decide (p.1 ≤ 2000000) && (decide (0 ≤ p.2.1) && decide (p.2.1 ≤ 2000000)) && (decide (0 ≤ p.2.2) && decide (p.2.2 ≤ 2000000))) = true := by kernel_rfl
theorem YE : (LT.all fun p => decide (0 ≤ p.1) && decide (p.1 ≤ 2000000) && (decide (0 ≤ p.2) && decide (p.2 ≤ 2000000))) = true := by kernel_rfl
def Ft : List AV := (xa 1).map .c
def HD : List AV := (xa 2).map .c
theorem vu : Ft.length = 168 := by kernel_rfl
theorem I3 : HD.length = 102 := by kernel_rfl
theorem ux {X : Prg} {g : Nat} {cs : List Value} (h : X.laid.find? (fun p => p.1 == g) = some (g, cs)) : globA X g = .fptr (cs.map .c) 0 := by unfold globA; rw [h]
theorem iZ {l : List AV} {n : Nat} {v : AV} (h : l[n]? = some v) : (l.drop n).take 1 = [v] := by
  have hl := (List.getElem?_eq_some_iff.1 h).1
  rw [List.drop_eq_getElem_cons hl, (List.getElem?_eq_some_iff.1 h).2]; rfl
theorem awI {i : Nat} (hi : i < 56) : ∃ a b c, RT[i]? = some (a, b, c) ∧ (0 ≤ a ∧ a ≤ 2000000) ∧ (0 ≤ b ∧ b ≤ 2000000) ∧ (0 ≤ c ∧ c ≤ 2000000) ∧
    (Ft.drop (i * 3)).take 1 = [.c (.int .i32 a)] ∧ (Ft.drop (i * 3 + 1)).take 1 = [.c (.int .i32 b)] ∧ (Ft.drop (i * 3 + 2)).take 1 = [.c (.int .i32 c)] := by
  have hl : i < RT.length := by rw [WA]; exact hi
  obtain ⟨⟨a, b, c⟩, hg⟩ : ∃ p, RT[i]? = some p := ⟨_, List.getElem?_eq_getElem hl⟩
  have hs := List.all_eq_true.1 aa7 _ (List.mem_of_getElem? hg)
  simp only [Bool.and_eq_true, decide_eq_true_eq] at hs
  have q := fun j (hj : j < 3) => ku (auD .i32) 3 (fun _ => rfl) RT i j _ hg hj
  have q' : ∀ (j : Nat) (v : Value), (auD .i32 (a, b, c))[j]? = some v → j < 3 → Ft[i * 3 + j]? = some (.c v) := fun j v hv hj => by
    unfold Ft
    rw [adW, List.getElem?_map, q j hj, hv]; rfl
  exact ⟨a, b, c, hg, hs.1.1, hs.1.2, hs.2, iZ (q' 0 _ rfl (by omega)), iZ (q' 1 _ rfl (by omega)), iZ (q' 2 _ rfl (by omega))⟩
theorem av4 {i : Nat} (hi : i < 51) : ∃ a b, LT[i]? = some (a, b) ∧ (0 ≤ a ∧ a ≤ 2000000) ∧ (0 ≤ b ∧ b ≤ 2000000) ∧
    (HD.drop (i * 2)).take 1 = [.c (.int .i32 a)] ∧ (HD.drop (i * 2 + 1)).take 1 = [.c (.int .i32 b)] := by
  have hl : i < LT.length := by rw [T0]; exact hi
  obtain ⟨⟨a, b⟩, hg⟩ : ∃ p, LT[i]? = some p := ⟨_, List.getElem?_eq_getElem hl⟩
  have hs := List.all_eq_true.1 YE _ (List.mem_of_getElem? hg)
  simp only [Bool.and_eq_true, decide_eq_true_eq] at hs
  have q := fun j (hj : j < 2) => ku (asX .i32) 2 (fun _ => rfl) LT i j _ hg hj
  have q' : ∀ (j : Nat) (v : Value), (asX .i32 (a, b))[j]? = some v → j < 2 → HD[i * 2 + j]? = some (.c v) := fun j v hv hj => by
    unfold HD
    rw [W1, List.getElem?_map, q j hj, hv]; rfl
  exact ⟨a, b, hg, hs.1, hs.2, iZ (q' 0 _ rfl (by omega)), iZ (q' 1 _ rfl (by omega))⟩
attribute [irreducible] Ft HD
def fg (q : Int → Bool) (v : Int) : List (Int × Int × Int) → Int
  | [] => 0
  | (a, b, c) :: l => if q c && (decide (a ≤ v) && decide (v ≤ b)) then c else fg q v l
def cx (v : Int) : List (Int × Int) → Option Int
  | [] => none
  | (a, b) :: l => if a = v then some b else cx v l
def aB (v : Int) : Int :=
  if right v = true then
    if 1114111 < v then 12
    else if fg (fun c => decide (c ≠ 2)) v RT ≠ 0 then fg (fun c => decide (c ≠ 2)) v RT
    else if (cx v LT).isSome then 3
    else if fg (fun c => decide (c = 2)) v RT ≠ 0 then fg (fun c => decide (c = 2)) v RT
    else 1
  else 0
def vG (o : Option Int) : AV := match o with | some b => .tup [.c (.int .i64 b), .c (.bool true)] | none => .tup [.c (.int .i64 0), .c (.bool false)]
def jg (v : Int) : Int := (cx v LT).getD v
section
variable {k : Nat → List Value → Option Value}
theorem ad9 : globA (XK k) 1 = .fptr Ft 0 := by
  unfold Ft
  exact ux (X := XK k) (show laid.find? _ = _ by kernel_rfl)
theorem aoY : globA (XK k) 2 = .fptr HD 0 := by
  unfold HD
  exact ux (X := XK k) (show laid.find? _ = _ by kernel_rfl)
variable (hk : ∀ f, f ≠ 105 → f ≠ 149 → ax k f)
include hk
theorem vH (v : Int) (g : Nat) (q : Int → Bool) (hq : ∀ c, PC (XK k) g [.c (.int .i64 c)] (.c (.bool (q c)))) :
    PC (XK k) 147 [.fn g [] [], .fptr [.c (.int .i64 v)] 0] (.c (.int .i64 (fg q v RT))) := by
  refine aI fun s => ?_
  refine ajF (hk _ (by decide) (by decide)) ?_
  (try (simp -implicitDefEqProofs (maxSteps := 2000000) (disch := first | omega | (simp only [ac, ae, ab]; first | done | omega)) only [push_cast, seval, nv, nF, nj])) <;> (repeat' ((first | apply ao | apply aj | apply am | apply al | apply an | apply ak | apply ai | apply ag | apply ah) <;> intro hc <;> try (simp -implicitDefEqProofs (maxSteps := 2000000) (disch := first | omega | (simp only [ac, ae, ab]; first | done | omega)) only [push_cast, seval, nv, nF, nj, hc])))
  refine aM (fun m ρ s' => ∃ i : Nat, m = 56 - i ∧ i ≤ 56 ∧ ρ.get 0 = .fn g [] [] ∧ ρ.get 1 = .fptr [.c (.int .i64 v)] 0 ∧ ρ.get 4 = .c (.int .i64 ((i * 3 : Nat) : Int)) ∧ (s' = s) ∧ (fg q v RT = fg q v (RT.drop i))) (56) ⟨0, rfl, Nat.zero_le _, by (((try simp -implicitDefEqProofs only [aw, aq, au.get_set, ar, List.getD_cons_zero, List.getD_cons_succ, ↓reduceIte, reduceCtorEq, Nat.reduceEqDiff]); try (first | (with_reducible assumption) | (with_reducible rfl) | (congr 2 <;> omega) | rfl))), by (((try simp -implicitDefEqProofs only [aw, aq, au.get_set, ar, List.getD_cons_zero, List.getD_cons_succ, ↓reduceIte, reduceCtorEq, Nat.reduceEqDiff]); try (first | (with_reducible assumption) | (with_reducible rfl) | (congr 2 <;> omega) | rfl))), by (((try simp -implicitDefEqProofs only [aw, aq, au.get_set, ar, List.getD_cons_zero, List.getD_cons_succ, ↓reduceIte, reduceCtorEq, Nat.reduceEqDiff]); try (first | (with_reducible assumption) | (with_reducible rfl) | (congr 2 <;> omega) | rfl))), rfl, rfl⟩ ?_
  rintro m ρ s' ⟨i, rfl, hi, g0, g1, g4, j1, j2⟩
  subst j1
  simp -implicitDefEqProofs (maxSteps := 2000000) (disch := first | omega | (simp only [ac, ae, ab]; first | done | omega)) only [push_cast, seval, nv, nF, nj, g4]
  refine am (fun hc => ?_) (fun hc => ?_)
  · obtain ⟨ra, rb, rc, hr, h1, h2, h3, r0, r1, r2⟩ := awI (show i < 56 by omega)
    rw [gF hr] at j2
    have e1 : fg q v ((ra, rb, rc) :: RT.drop (i + 1)) = if q rc && (decide (ra ≤ v) && decide (v ≤ rb)) then rc else fg q v (RT.drop (i + 1)) := rfl
    rw [e1] at j2
    simp -implicitDefEqProofs (maxSteps := 2000000) (disch := first | omega | (simp only [ac, ae, ab]; first | done | omega)) only [push_cast, seval, nv, nF, nj, g4, g0, g1, ad9, vu, r2]
    refine ap (hq _) ?_
    (try (simp -implicitDefEqProofs (maxSteps := 2000000) (disch := first | omega | (simp only [ac, ae, ab]; first | done | omega)) only [push_cast, seval, nv, nF, nj, g4, g0, g1, ad9, vu, r0, r1, r2])) <;> (repeat' ((first | apply ao | apply aj | apply am | apply al | apply an | apply ak | apply ai | apply ag | apply ah) <;> intro hc <;> try (simp -implicitDefEqProofs (maxSteps := 2000000) (disch := first | omega | (simp only [ac, ae, ab]; first | done | omega)) only [push_cast, seval, nv, nF, nj, hc, g4, g0, g1, ad9, vu, r0, r1, r2])))
    · exact aD (by (repeat first | assumption | exact af.refl _ | apply af.push | refine af.set ?_ (by first | omega | (simp only [ac, ae, ab]; omega) | (have h9 := af.size_le (by assumption); (try simp only [ac, ae, ab] at *); omega)) _ | refine af.drop ?_ (by first | omega | (simp only [ac, ae, ab]; omega) | (have h9 := af.size_le (by assumption); (try simp only [ac, ae, ab] at *); omega)) | refine af.trans ?_ (by assumption))) (by simp only [j2, if_pos, *, and_self, decide_true, Bool.and_self])
    all_goals exact ⟨56 - (i + 1), by omega, i + 1, rfl, by omega, by congr 2; omega, (by simpa [*] using j2)⟩
  · simp -implicitDefEqProofs (maxSteps := 2000000) (disch := first | omega | (simp only [ac, ae, ab]; first | done | omega)) only [push_cast, seval, nv, nF, nj]
    have : i = 56 := by omega
    subst this
    rw [List.drop_eq_nil_of_le (by rw [WA]; omega)] at j2
    exact aD (by (repeat first | assumption | exact af.refl _ | apply af.push | refine af.set ?_ (by first | omega | (simp only [ac, ae, ab]; omega) | (have h9 := af.size_le (by assumption); (try simp only [ac, ae, ab] at *); omega)) _ | refine af.drop ?_ (by first | omega | (simp only [ac, ae, ab]; omega) | (have h9 := af.size_le (by assumption); (try simp only [ac, ae, ab] at *); omega)) | refine af.trans ?_ (by assumption))) j2.symm
theorem Vx (v : Int) : PC (XK k) 137 [.c (.int .i64 v)] (vG (cx v LT)) := by
  refine aI fun s => ?_
  refine akS (hk _ (by decide) (by decide)) ?_
  (try (simp -implicitDefEqProofs (maxSteps := 2000000) (disch := first | omega | (simp only [ac, ae, ab]; first | done | omega)) only [push_cast, seval, pE, py, pu])) <;> (repeat' ((first | apply ao | apply aj | apply am | apply al | apply an | apply ak | apply ai | apply ag | apply ah) <;> intro hc <;> try (simp -implicitDefEqProofs (maxSteps := 2000000) (disch := first | omega | (simp only [ac, ae, ab]; first | done | omega)) only [push_cast, seval, pE, py, pu, hc])))
  refine aM (fun m ρ s' => ∃ i : Nat, m = 51 - i ∧ i ≤ 51 ∧ ρ.get 0 = .c (.int .i64 v) ∧ ρ.get 4 = .c (.int .i64 ((i * 2 : Nat) : Int)) ∧ (s' = s) ∧ (cx v LT = cx v (LT.drop i))) (51) ⟨0, rfl, Nat.zero_le _, by (((try simp -implicitDefEqProofs only [aw, aq, au.get_set, ar, List.getD_cons_zero, List.getD_cons_succ, ↓reduceIte, reduceCtorEq, Nat.reduceEqDiff]); try (first | (with_reducible assumption) | (with_reducible rfl) | (congr 2 <;> omega) | rfl))), by (((try simp -implicitDefEqProofs only [aw, aq, au.get_set, ar, List.getD_cons_zero, List.getD_cons_succ, ↓reduceIte, reduceCtorEq, Nat.reduceEqDiff]); try (first | (with_reducible assumption) | (with_reducible rfl) | (congr 2 <;> omega) | rfl))), rfl, rfl⟩ ?_
  rintro m ρ s' ⟨i, rfl, hi, g0, g4, j1, j2⟩
  subst j1
  simp -implicitDefEqProofs (maxSteps := 2000000) (disch := first | omega | (simp only [ac, ae, ab]; first | done | omega)) only [push_cast, seval, pE, py, pu, g4]
  refine am (fun hc => ?_) (fun hc => ?_)
  · obtain ⟨ra, rb, hr, h1, h2, r0, r1⟩ := av4 (show i < 51 by omega)
    rw [gF hr] at j2
    have e1 : cx v ((ra, rb) :: LT.drop (i + 1)) = if ra = v then some rb else cx v (LT.drop (i + 1)) := rfl
    rw [e1] at j2
    (try (simp -implicitDefEqProofs (maxSteps := 2000000) (disch := first | omega | (simp only [ac, ae, ab]; first | done | omega)) only [push_cast, seval, pE, py, pu, g4, g0, aoY, I3, r0, r1])) <;> (repeat' ((first | apply ao | apply aj | apply am | apply al | apply an | apply ak | apply ai | apply ag | apply ah) <;> intro hc <;> try (simp -implicitDefEqProofs (maxSteps := 2000000) (disch := first | omega | (simp only [ac, ae, ab]; first | done | omega)) only [push_cast, seval, pE, py, pu, hc, g4, g0, aoY, I3, r0, r1])))
    · rw [j2, if_pos (by omega)]
      exact bH (by (repeat first | assumption | exact af.refl _ | apply af.push | refine af.set ?_ (by first | omega | (simp only [ac, ae, ab]; omega) | (have h9 := af.size_le (by assumption); (try simp only [ac, ae, ab] at *); omega)) _ | refine af.drop ?_ (by first | omega | (simp only [ac, ae, ab]; omega) | (have h9 := af.size_le (by assumption); (try simp only [ac, ae, ab] at *); omega)) | refine af.trans ?_ (by assumption))) rfl (az.tup (aN.cons (az.c _) (aN.cons (az.c _) aN.nil)))
    · exact ⟨51 - (i + 1), by omega, i + 1, rfl, by omega, by congr 2; omega, (by simpa [*] using j2)⟩
  · simp -implicitDefEqProofs (maxSteps := 2000000) (disch := first | omega | (simp only [ac, ae, ab]; first | done | omega)) only [push_cast, seval, pE, py, pu]
    have : i = 51 := by omega
    subst this
    rw [List.drop_eq_nil_of_le (by rw [T0]; omega)] at j2
    rw [j2]
    exact bH (by (repeat first | assumption | exact af.refl _ | apply af.push | refine af.set ?_ (by first | omega | (simp only [ac, ae, ab]; omega) | (have h9 := af.size_le (by assumption); (try simp only [ac, ae, ab] at *); omega)) _ | refine af.drop ?_ (by first | omega | (simp only [ac, ae, ab]; omega) | (have h9 := af.size_le (by assumption); (try simp only [ac, ae, ab] at *); omega)) | refine af.trans ?_ (by assumption))) rfl (az.tup (aN.cons (az.c _) (aN.cons (az.c _) aN.nil)))
theorem avJ (c : Int) : PC (XK k) 136 [.c (.int .i64 c)] (.c (.bool (decide (c ≠ 2)))) := by
  refine aI fun s => ?_
  refine amD (hk _ (by decide) (by decide)) ?_
  (try (simp -implicitDefEqProofs (maxSteps := 2000000) (disch := first | omega | (simp only [ac, ae, ab]; first | done | omega)) only [push_cast, seval, Zj])) <;> (repeat' ((first | apply ao | apply aj | apply am | apply al | apply an | apply ak | apply ai | apply ag | apply ah) <;> intro hc <;> try (simp -implicitDefEqProofs (maxSteps := 2000000) (disch := first | omega | (simp only [ac, ae, ab]; first | done | omega)) only [push_cast, seval, Zj, hc])))
  exact aK (by (repeat first | assumption | exact af.refl _ | apply af.push | refine af.set ?_ (by first | omega | (simp only [ac, ae, ab]; omega) | (have h9 := af.size_le (by assumption); (try simp only [ac, ae, ab] at *); omega)) _ | refine af.drop ?_ (by first | omega | (simp only [ac, ae, ab]; omega) | (have h9 := af.size_le (by assumption); (try simp only [ac, ae, ab] at *); omega)) | refine af.trans ?_ (by assumption))) (by simp)
theorem asE (c : Int) : PC (XK k) 138 [.c (.int .i64 c)] (.c (.bool (decide (c = 2)))) := by
  refine aI fun s => ?_
  refine amH (hk _ (by decide) (by decide)) ?_
  (try (simp -implicitDefEqProofs (maxSteps := 2000000) (disch := first | omega | (simp only [ac, ae, ab]; first | done | omega)) only [push_cast, seval, ahC])) <;> (repeat' ((first | apply ao | apply aj | apply am | apply al | apply an | apply ak | apply ai | apply ag | apply ah) <;> intro hc <;> try (simp -implicitDefEqProofs (maxSteps := 2000000) (disch := first | omega | (simp only [ac, ae, ab]; first | done | omega)) only [push_cast, seval, ahC, hc])))
  exact aK (by (repeat first | assumption | exact af.refl _ | apply af.push | refine af.set ?_ (by first | omega | (simp only [ac, ae, ab]; omega) | (have h9 := af.size_le (by assumption); (try simp only [ac, ae, ab] at *); omega)) _ | refine af.drop ?_ (by first | omega | (simp only [ac, ae, ab]; omega) | (have h9 := af.size_le (by assumption); (try simp only [ac, ae, ab] at *); omega)) | refine af.trans ?_ (by assumption))) rfl
theorem SI (v : Int) : PC (XK k) 135 [.c (.int .i64 v)] (.fn 147 [] [.fptr [.c (.int .i64 v)] 0]) := by
  refine aI fun s => ?_
  refine akD (hk _ (by decide) (by decide)) ?_
  (try (simp -implicitDefEqProofs (maxSteps := 2000000) (disch := first | omega | (simp only [ac, ae, ab]; first | done | omega)) only [push_cast, seval, ac3])) <;> (repeat' ((first | apply ao | apply aj | apply am | apply al | apply an | apply ak | apply ai | apply ag | apply ah) <;> intro hc <;> try (simp -implicitDefEqProofs (maxSteps := 2000000) (disch := first | omega | (simp only [ac, ae, ab]; first | done | omega)) only [push_cast, seval, ac3, hc])))
  exact ⟨by (repeat first | assumption | exact af.refl _ | apply af.push | refine af.set ?_ (by first | omega | (simp only [ac, ae, ab]; omega) | (have h9 := af.size_le (by assumption); (try simp only [ac, ae, ab] at *); omega)) _ | refine af.drop ?_ (by first | omega | (simp only [ac, ae, ab]; omega) | (have h9 := af.size_le (by assumption); (try simp only [ac, ae, ab] at *); omega)) | refine af.trans ?_ (by assumption)), Se.fn Ses.nil (Ses.cons (Se.ptr (r := ⟨[.c (.int .i64 v)], 3, 0, 0, false⟩) (bB rfl) (Nat.le_refl _) rfl rfl (Ses.firm (aN.cons (az.c _) aN.nil))) Ses.nil)⟩
theorem m9 (v : Int) : PC (XK k) 112 [.c (.int .i64 v)] (.c (.int .i64 (aB v))) := by
  refine aI fun s => ?_
  refine aj2 (hk _ (by decide) (by decide)) ?_
  (try (simp -implicitDefEqProofs (maxSteps := 2000000) (disch := first | omega | (simp only [ac, ae, ab]; first | done | omega)) only [push_cast, seval, eB, eF, ek, eg, ej])) <;> (repeat' ((first | apply ao | apply aj | apply am | apply al | apply an | apply ak | apply ai | apply ag | apply ah) <;> intro hc <;> try (simp -implicitDefEqProofs (maxSteps := 2000000) (disch := first | omega | (simp only [ac, ae, ab]; first | done | omega)) only [push_cast, seval, eB, eF, ek, eg, ej, hc])))
  refine ap (ai8 hk _) ?_
  (try (simp -implicitDefEqProofs (maxSteps := 2000000) (disch := first | omega | (simp only [ac, ae, ab]; first | done | omega)) only [push_cast, seval, eB, eF, ek, eg, ej])) <;> (repeat' ((first | apply ao | apply aj | apply am | apply al | apply an | apply ak | apply ai | apply ag | apply ah) <;> intro hc <;> try (simp -implicitDefEqProofs (maxSteps := 2000000) (disch := first | omega | (simp only [ac, ae, ab]; first | done | omega)) only [push_cast, seval, eB, eF, ek, eg, ej, hc])))
  · exact aD (by (repeat first | assumption | exact af.refl _ | apply af.push | refine af.set ?_ (by first | omega | (simp only [ac, ae, ab]; omega) | (have h9 := af.size_le (by assumption); (try simp only [ac, ae, ab] at *); omega)) _ | refine af.drop ?_ (by first | omega | (simp only [ac, ae, ab]; omega) | (have h9 := af.size_le (by assumption); (try simp only [ac, ae, ab] at *); omega)) | refine af.trans ?_ (by assumption))) (by simp_all [aB])
  · exact aD (by (repeat first | assumption | exact af.refl _ | apply af.push | refine af.set ?_ (by first | omega | (simp only [ac, ae, ab]; omega) | (have h9 := af.size_le (by assumption); (try simp only [ac, ae, ab] at *); omega)) _ | refine af.drop ?_ (by first | omega | (simp only [ac, ae, ab]; omega) | (have h9 := af.size_le (by assumption); (try simp only [ac, ae, ab] at *); omega)) | refine af.trans ?_ (by assumption))) (by simp_all [aB])
  refine ap (SI hk _) ?_
  (try (simp -implicitDefEqProofs (maxSteps := 2000000) (disch := first | omega | (simp only [ac, ae, ab]; first | done | omega)) only [push_cast, seval, eB, eF, ek, eg, ej])) <;> (repeat' ((first | apply ao | apply aj | apply am | apply al | apply an | apply ak | apply ai | apply ag | apply ah) <;> intro hc <;> try (simp -implicitDefEqProofs (maxSteps := 2000000) (disch := first | omega | (simp only [ac, ae, ab]; first | done | omega)) only [push_cast, seval, eB, eF, ek, eg, ej, hc])))
  refine ap (vH hk v 136 _ (avJ hk)) ?_
  (try (simp -implicitDefEqProofs (maxSteps := 2000000) (disch := first | omega | (simp only [ac, ae, ab]; first | done | omega)) only [push_cast, seval, eB, eF, ek, eg, ej])) <;> (repeat' ((first | apply ao | apply aj | apply am | apply al | apply an | apply ak | apply ai | apply ag | apply ah) <;> intro hc <;> try (simp -implicitDefEqProofs (maxSteps := 2000000) (disch := first | omega | (simp only [ac, ae, ab]; first | done | omega)) only [push_cast, seval, eB, eF, ek, eg, ej, hc])))
  · exact aD (by (repeat first | assumption | exact af.refl _ | apply af.push | refine af.set ?_ (by first | omega | (simp only [ac, ae, ab]; omega) | (have h9 := af.size_le (by assumption); (try simp only [ac, ae, ab] at *); omega)) _ | refine af.drop ?_ (by first | omega | (simp only [ac, ae, ab]; omega) | (have h9 := af.size_le (by assumption); (try simp only [ac, ae, ab] at *); omega)) | refine af.trans ?_ (by assumption))) (by simp_all [aB]; intro; omega)
  refine ap (Vx hk v) ?_
  cases hx : cx v LT with
  | some x =>
    (try (simp -implicitDefEqProofs (maxSteps := 2000000) (disch := first | omega | (simp only [ac, ae, ab]; first | done | omega)) only [push_cast, seval, eB, eF, ek, eg, ej, vG])) <;> (repeat' ((first | apply ao | apply aj | apply am | apply al | apply an | apply ak | apply ai | apply ag | apply ah) <;> intro hc <;> try (simp -implicitDefEqProofs (maxSteps := 2000000) (disch := first | omega | (simp only [ac, ae, ab]; first | done | omega)) only [push_cast, seval, eB, eF, ek, eg, ej, hc, vG])))
    exact aD (by (repeat first | assumption | exact af.refl _ | apply af.push | refine af.set ?_ (by first | omega | (simp only [ac, ae, ab]; omega) | (have h9 := af.size_le (by assumption); (try simp only [ac, ae, ab] at *); omega)) _ | refine af.drop ?_ (by first | omega | (simp only [ac, ae, ab]; omega) | (have h9 := af.size_le (by assumption); (try simp only [ac, ae, ab] at *); omega)) | refine af.trans ?_ (by assumption))) (by simp_all [aB])
  | none =>
    (try (simp -implicitDefEqProofs (maxSteps := 2000000) (disch := first | omega | (simp only [ac, ae, ab]; first | done | omega)) only [push_cast, seval, eB, eF, ek, eg, ej, vG])) <;> (repeat' ((first | apply ao | apply aj | apply am | apply al | apply an | apply ak | apply ai | apply ag | apply ah) <;> intro hc <;> try (simp -implicitDefEqProofs (maxSteps := 2000000) (disch := first | omega | (simp only [ac, ae, ab]; first | done | omega)) only [push_cast, seval, eB, eF, ek, eg, ej, hc, vG])))
    refine ap (vH hk v 138 _ (asE hk)) ?_
    (try (simp -implicitDefEqProofs (maxSteps := 2000000) (disch := first | omega | (simp only [ac, ae, ab]; first | done | omega)) only [push_cast, seval, eB, eF, ek, eg, ej])) <;> (repeat' ((first | apply ao | apply aj | apply am | apply al | apply an | apply ak | apply ai | apply ag | apply ah) <;> intro hc <;> try (simp -implicitDefEqProofs (maxSteps := 2000000) (disch := first | omega | (simp only [ac, ae, ab]; first | done | omega)) only [push_cast, seval, eB, eF, ek, eg, ej, hc])))
    · exact aD (by (repeat first | assumption | exact af.refl _ | apply af.push | refine af.set ?_ (by first | omega | (simp only [ac, ae, ab]; omega) | (have h9 := af.size_le (by assumption); (try simp only [ac, ae, ab] at *); omega)) _ | refine af.drop ?_ (by first | omega | (simp only [ac, ae, ab]; omega) | (have h9 := af.size_le (by assumption); (try simp only [ac, ae, ab] at *); omega)) | refine af.trans ?_ (by assumption))) (by simp_all [aB]; omega)
    · exact aD (by (repeat first | assumption | exact af.refl _ | apply af.push | refine af.set ?_ (by first | omega | (simp only [ac, ae, ab]; omega) | (have h9 := af.size_le (by assumption); (try simp only [ac, ae, ab] at *); omega)) _ | refine af.drop ?_ (by first | omega | (simp only [ac, ae, ab]; omega) | (have h9 := af.size_le (by assumption); (try simp only [ac, ae, ab] at *); omega)) | refine af.trans ?_ (by assumption))) (by simp_all [aB])
end
end Go.Proofs.YticllcglldbffaaDoor.Ab
namespace Go.Proofs.YticllcglldbffaaDoor.Ab
open Go.Proofs
set_option maxRecDepth 100000
set_option maxHeartbeats 2000000
set_option linter.unusedSimpArgs false
set_option linter.unusedVariables false
set_option linter.unnecessarySimpa false
theorem lU {X : Prg} {s : VS} {f b n e cap : Nat} {v : AV} {l : List Int} {r : AV} {K : AV → VS → Prop} (h : PC X f [v, LI l] r) (hv : az v) (hr : fA r) (hg : s.get b = some (.own ⟨l.map fun x => .c (.int .i64 x), e, 0, 0, false⟩)) (hn : l.length = n) (hc : n ≤ cap / 2) (hK : K r s) : VC X f [v, .sl ⟨b, 0, none⟩ n cap] s K := by
  refine alN h (Ses.cons (Se.firm hv) (Ses.cons (Se.sl hg trivial rfl ?_ hc (by rw [List.length_map]; exact hn) (at3 .i64 l) ?_) Ses.nil)) hr hK
  · show 0 + n * 1 ≤ (l.map _).length
    rw [List.length_map]; omega
  · show Ses X All Non s (((l.map fun x => AV.c (.int .i64 x)).drop 0).take (n * 1)) _
    rw [akX, List.drop_zero, List.take_of_length_le (by rw [List.length_map]; omega)]
    exact Ses.firm (aN.map fun _ => az.c _)
noncomputable def O1 : List Int := nl .i64 nk 1
noncomputable def O2 : List Int := nl .i64 nd 1
noncomputable def O3 : List Int := nl .i64 nJ 1
noncomputable def O4 : List Int := nl .i64 nx 1
noncomputable def O5 : List Int := nl .i64 np 1
noncomputable def iW (v : Int) : Int :=
  if v ≤ 31 then 4 else if v = 127 then 5 else if 128 ≤ v ∧ v ≤ 159 then 6
  else if dt v O1 = true then 10 else if dt v O2 = true then 8 else if dt v O3 = true then 7 else if dt v O4 = true then 9 else if dt v O5 = true then 11 else 0
noncomputable def SL : List Int := nl .i64 ahL 0
noncomputable def SS : ByteArray := awG agR 0
noncomputable def qi (v : Int) : List Int → List UInt8 → Int
  | a :: l, b :: t => if a = v then b.toNat else qi v l t
  | _, _ => v
noncomputable def jD (v : Int) : Int := qi v SL SS.data.toList
theorem JI : SL.length = 51 := by kernel_rfl
theorem auC : SS.data.toList.length = 51 := by kernel_rfl
noncomputable def WL : List Int := nl .i64 KB 1
noncomputable def mC (v : Int) : Int :=
  if right v = true then
    if 1114111 < v then 12 else if 0 < iW v then iW v else if jD v ≠ v then 3 else if dt v WL = true then 2 else 1
  else 0
section
variable {k : Nat → List Value → Option Value} (hk : ∀ f, f ≠ 105 → f ≠ 149 → ax k f)
include hk
theorem gL (v : Int) (l : List Int) (hl : l.length < 1000) : PC (XK k) 65 [.c (.int .i64 v), LI l] (.c (.bool (dt v l))) := by
  refine aI fun s => ?_
  refine avE (hk _ (by decide) (by decide)) ?_
  (try (simp -implicitDefEqProofs (maxSteps := 2000000) (disch := first | omega | (simp only [ac, ae, ab]; first | done | omega)) only [push_cast, seval, wq, xz, xQ])) <;> (repeat' ((first | apply ao | apply aj | apply am | apply al | apply an | apply ak | apply ai | apply ag | apply ah) <;> intro hc <;> try (simp -implicitDefEqProofs (maxSteps := 2000000) (disch := first | omega | (simp only [ac, ae, ab]; first | done | omega)) only [push_cast, seval, wq, xz, xQ, hc])))
  refine aM (fun m ρ s' => ∃ i : Nat, m = l.length + 1 - i ∧ i ≤ l.length + 1 ∧ ρ.get 5 = .c (.int .i64 i) ∧ ρ.get 0 = .c (.int .i64 v) ∧ ρ.get 1 = LI l ∧ s' = s ∧ dt v l = dt v (l.drop i)) (l.length + 1) ⟨0, rfl, by omega, by (((try simp -implicitDefEqProofs only [aw, aq, au.get_set, ar, List.getD_cons_zero, List.getD_cons_succ, ↓reduceIte, reduceCtorEq, Nat.reduceEqDiff]); try (first | (with_reducible assumption) | (with_reducible rfl) | (congr 2 <;> omega) | rfl))), by (((try simp -implicitDefEqProofs only [aw, aq, au.get_set, ar, List.getD_cons_zero, List.getD_cons_succ, ↓reduceIte, reduceCtorEq, Nat.reduceEqDiff]); try (first | (with_reducible assumption) | (with_reducible rfl) | (congr 2 <;> omega) | rfl))), by (((try simp -implicitDefEqProofs only [aw, aq, au.get_set, ar, List.getD_cons_zero, List.getD_cons_succ, ↓reduceIte, reduceCtorEq, Nat.reduceEqDiff]); try (first | (with_reducible assumption) | (with_reducible rfl) | (congr 2 <;> omega) | rfl))), rfl, rfl⟩ ?_
  rintro m ρ s' ⟨i, rfl, hi, g5, g0, g1, rfl, hf⟩
  simp -implicitDefEqProofs (maxSteps := 2000000) (disch := first | omega | (simp only [ac, ae, ab]; first | done | omega)) only [push_cast, seval, wq, xz, xQ, g5, g1]
  refine am (fun hc => ?_) (fun hc => ?_)
  · have hx := List.getElem?_eq_getElem (show i < l.length by omega)
    have hy := List.getElem?_eq_getElem (show i + 1 < l.length by omega)
    generalize l[i] = x at hx
    generalize l[i + 1] = y at hy
    rw [gF hx, gF hy] at hf
    simp only [dt] at hf
    (try (simp -implicitDefEqProofs (maxSteps := 2000000) (disch := first | omega | (simp only [ac, ae, ab]; first | done | omega)) only [push_cast, seval, wq, xz, xQ, g5, g0, g1, hx, hy, eI])) <;> (repeat' ((first | apply ao | apply aj | apply am | apply al | apply an | apply ak | apply ai | apply ag | apply ah) <;> intro hc <;> try (simp -implicitDefEqProofs (maxSteps := 2000000) (disch := first | omega | (simp only [ac, ae, ab]; first | done | omega)) only [push_cast, seval, wq, xz, xQ, hc, g5, g0, g1, hx, hy, eI])))
    · exact aK (by (repeat first | assumption | exact af.refl _ | apply af.push | refine af.set ?_ (by first | omega | (simp only [ac, ae, ab]; omega) | (have h9 := af.size_le (by assumption); (try simp only [ac, ae, ab] at *); omega)) _ | refine af.drop ?_ (by first | omega | (simp only [ac, ae, ab]; omega) | (have h9 := af.size_le (by assumption); (try simp only [ac, ae, ab] at *); omega)) | refine af.trans ?_ (by assumption))) (by simp only [hf, *, decide_true, Bool.and_self, Bool.true_or])
    all_goals exact ⟨l.length + 1 - (i + 2), by omega, i + 2, rfl, by omega, by congr 2, by simpa [*] using hf⟩
  · simp -implicitDefEqProofs (maxSteps := 2000000) (disch := first | omega | (simp only [ac, ae, ab]; first | done | omega)) only [push_cast, seval, wq, xz, xQ]
    refine aK (by (repeat first | assumption | exact af.refl _ | apply af.push | refine af.set ?_ (by first | omega | (simp only [ac, ae, ab]; omega) | (have h9 := af.size_le (by assumption); (try simp only [ac, ae, ab] at *); omega)) _ | refine af.drop ?_ (by first | omega | (simp only [ac, ae, ab]; omega) | (have h9 := af.size_le (by assumption); (try simp only [ac, ae, ab] at *); omega)) | refine af.trans ?_ (by assumption))) ?_
    rw [hf]
    rcases Nat.lt_or_ge i l.length with h1 | h1
    · have hx := List.getElem?_eq_getElem h1
      rw [gF hx, List.drop_eq_nil_of_le (by omega)]; rfl
    · rw [List.drop_eq_nil_of_le h1]; rfl
theorem asC (v : Int) : PC (XK k) 63 [.c (.int .i64 v)] (.c (.int .i64 (iW v))) := by
  refine aI fun s => ?_
  refine as0 (hk _ (by decide) (by decide)) ?_
  have tail : ∀ ρ : au, ρ.get 0 = .c (.int .i64 v) → ¬ v ≤ 31 → ¬ v = 127 → ¬ (128 ≤ v ∧ v ≤ 159) → vwp (XK k) nu ρ s (rtA (XK k) [.tmp 2] (qW (XK k) s (.c (.int .i64 (iW v))))) := by
    intro ρ g0 h1 h2 h3
    have e : ∀ x, (if v ≤ 31 then 4 else if v = 127 then 5 else if 128 ≤ v ∧ v ≤ 159 then 6 else x) = (x : Int) := fun x => by simp [h1, h2, h3]
    unfold iW
    rw [e]
    simp -implicitDefEqProofs (maxSteps := 2000000) (disch := first | omega | (simp only [ac, ae, ab]; first | done | omega)) only [push_cast, seval, gv, gB, gd, gm, gr, gn, g0]
    rw [gR qx ty3 (l := O1) (by kernel_rfl) (by kernel_rfl) rfl]
    simp -implicitDefEqProofs (maxSteps := 2000000) (disch := first | omega | (simp only [ac, ae, ab]; first | done | omega)) only [push_cast, seval, gv, gB, gd, gm, gr, gn, g0]
    refine lU (gL hk v O1 (by show 14 < 1000; omega)) (az.c _) (fA.c _) (bB rfl) (by kernel_rfl) (by rw [bA]; omega) ?_
    (try (simp -implicitDefEqProofs (maxSteps := 2000000) (disch := first | omega | (simp only [ac, ae, ab]; first | done | omega)) only [push_cast, seval, gv, gB, gd, gm, gr, gn, g0])) <;> (repeat' ((first | apply ao | apply aj | apply am | apply al | apply an | apply ak | apply ai | apply ag | apply ah) <;> intro hc <;> try (simp -implicitDefEqProofs (maxSteps := 2000000) (disch := first | omega | (simp only [ac, ae, ab]; first | done | omega)) only [push_cast, seval, gv, gB, gd, gm, gr, gn, hc, g0])))
    · exact aD (by (repeat first | assumption | exact af.refl _ | apply af.push | refine af.set ?_ (by first | omega | (simp only [ac, ae, ab]; omega) | (have h9 := af.size_le (by assumption); (try simp only [ac, ae, ab] at *); omega)) _ | refine af.drop ?_ (by first | omega | (simp only [ac, ae, ab]; omega) | (have h9 := af.size_le (by assumption); (try simp only [ac, ae, ab] at *); omega)) | refine af.trans ?_ (by assumption))) (by simp [*])
    rw [gR qx ty3 (l := O2) (by kernel_rfl) (by kernel_rfl) rfl]
    simp -implicitDefEqProofs (maxSteps := 2000000) (disch := first | omega | (simp only [ac, ae, ab]; first | done | omega)) only [push_cast, seval, gv, gB, gd, gm, gr, gn, g0]
    refine lU (gL hk v O2 (by show 12 < 1000; omega)) (az.c _) (fA.c _) (bB rfl) (by kernel_rfl) (by rw [bA]; omega) ?_
    (try (simp -implicitDefEqProofs (maxSteps := 2000000) (disch := first | omega | (simp only [ac, ae, ab]; first | done | omega)) only [push_cast, seval, gv, gB, gd, gm, gr, gn, g0])) <;> (repeat' ((first | apply ao | apply aj | apply am | apply al | apply an | apply ak | apply ai | apply ag | apply ah) <;> intro hc <;> try (simp -implicitDefEqProofs (maxSteps := 2000000) (disch := first | omega | (simp only [ac, ae, ab]; first | done | omega)) only [push_cast, seval, gv, gB, gd, gm, gr, gn, hc, g0])))
    · exact aD (by (repeat first | assumption | exact af.refl _ | apply af.push | refine af.set ?_ (by first | omega | (simp only [ac, ae, ab]; omega) | (have h9 := af.size_le (by assumption); (try simp only [ac, ae, ab] at *); omega)) _ | refine af.drop ?_ (by first | omega | (simp only [ac, ae, ab]; omega) | (have h9 := af.size_le (by assumption); (try simp only [ac, ae, ab] at *); omega)) | refine af.trans ?_ (by assumption))) (by simp [*])
    rw [gR qx ty3 (l := O3) (by kernel_rfl) (by kernel_rfl) rfl]
    simp -implicitDefEqProofs (maxSteps := 2000000) (disch := first | omega | (simp only [ac, ae, ab]; first | done | omega)) only [push_cast, seval, gv, gB, gd, gm, gr, gn, g0]
    refine lU (gL hk v O3 (by show 8 < 1000; omega)) (az.c _) (fA.c _) (bB rfl) (by kernel_rfl) (by rw [bA]; omega) ?_
    (try (simp -implicitDefEqProofs (maxSteps := 2000000) (disch := first | omega | (simp only [ac, ae, ab]; first | done | omega)) only [push_cast, seval, gv, gB, gd, gm, gr, gn, g0])) <;> (repeat' ((first | apply ao | apply aj | apply am | apply al | apply an | apply ak | apply ai | apply ag | apply ah) <;> intro hc <;> try (simp -implicitDefEqProofs (maxSteps := 2000000) (disch := first | omega | (simp only [ac, ae, ab]; first | done | omega)) only [push_cast, seval, gv, gB, gd, gm, gr, gn, hc, g0])))
    · exact aD (by (repeat first | assumption | exact af.refl _ | apply af.push | refine af.set ?_ (by first | omega | (simp only [ac, ae, ab]; omega) | (have h9 := af.size_le (by assumption); (try simp only [ac, ae, ab] at *); omega)) _ | refine af.drop ?_ (by first | omega | (simp only [ac, ae, ab]; omega) | (have h9 := af.size_le (by assumption); (try simp only [ac, ae, ab] at *); omega)) | refine af.trans ?_ (by assumption))) (by simp [*])
    rw [gR qx ty3 (l := O4) (by kernel_rfl) (by kernel_rfl) rfl]
    simp -implicitDefEqProofs (maxSteps := 2000000) (disch := first | omega | (simp only [ac, ae, ab]; first | done | omega)) only [push_cast, seval, gv, gB, gd, gm, gr, gn, g0]
    refine lU (gL hk v O4 (by show 26 < 1000; omega)) (az.c _) (fA.c _) (bB rfl) (by kernel_rfl) (by rw [bA]; omega) ?_
    (try (simp -implicitDefEqProofs (maxSteps := 2000000) (disch := first | omega | (simp only [ac, ae, ab]; first | done | omega)) only [push_cast, seval, gv, gB, gd, gm, gr, gn, g0])) <;> (repeat' ((first | apply ao | apply aj | apply am | apply al | apply an | apply ak | apply ai | apply ag | apply ah) <;> intro hc <;> try (simp -implicitDefEqProofs (maxSteps := 2000000) (disch := first | omega | (simp only [ac, ae, ab]; first | done | omega)) only [push_cast, seval, gv, gB, gd, gm, gr, gn, hc, g0])))
    · exact aD (by (repeat first | assumption | exact af.refl _ | apply af.push | refine af.set ?_ (by first | omega | (simp only [ac, ae, ab]; omega) | (have h9 := af.size_le (by assumption); (try simp only [ac, ae, ab] at *); omega)) _ | refine af.drop ?_ (by first | omega | (simp only [ac, ae, ab]; omega) | (have h9 := af.size_le (by assumption); (try simp only [ac, ae, ab] at *); omega)) | refine af.trans ?_ (by assumption))) (by simp [*])
    rw [gR qx ty3 (l := O5) (by kernel_rfl) (by kernel_rfl) rfl]
    simp -implicitDefEqProofs (maxSteps := 2000000) (disch := first | omega | (simp only [ac, ae, ab]; first | done | omega)) only [push_cast, seval, gv, gB, gd, gm, gr, gn, g0]
    refine lU (gL hk v O5 (by show 12 < 1000; omega)) (az.c _) (fA.c _) (bB rfl) (by kernel_rfl) (by rw [bA]; omega) ?_
    (try (simp -implicitDefEqProofs (maxSteps := 2000000) (disch := first | omega | (simp only [ac, ae, ab]; first | done | omega)) only [push_cast, seval, gv, gB, gd, gm, gr, gn, g0])) <;> (repeat' ((first | apply ao | apply aj | apply am | apply al | apply an | apply ak | apply ai | apply ag | apply ah) <;> intro hc <;> try (simp -implicitDefEqProofs (maxSteps := 2000000) (disch := first | omega | (simp only [ac, ae, ab]; first | done | omega)) only [push_cast, seval, gv, gB, gd, gm, gr, gn, hc, g0])))
    all_goals exact aD (by (repeat first | assumption | exact af.refl _ | apply af.push | refine af.set ?_ (by first | omega | (simp only [ac, ae, ab]; omega) | (have h9 := af.size_le (by assumption); (try simp only [ac, ae, ab] at *); omega)) _ | refine af.drop ?_ (by first | omega | (simp only [ac, ae, ab]; omega) | (have h9 := af.size_le (by assumption); (try simp only [ac, ae, ab] at *); omega)) | refine af.trans ?_ (by assumption))) (by simp [*])
  (try (simp -implicitDefEqProofs (maxSteps := 2000000) (disch := first | omega | (simp only [ac, ae, ab]; first | done | omega)) only [push_cast, seval, (@vS (XK k) xr qk wX rfl), (@vO (XK k) xr _ _ _ rfl (by kernel_rfl)), (@vS (XK k) qg kS qk rfl), (@vS (XK k) xd qJ qg rfl), (@vO (XK k) xd _ _ _ rfl (by kernel_rfl)), (@vC (XK k) qL xI qJ (.tmp 4) rfl), (@vS (XK k) wy xu qL rfl), (@vO (XK k) wy _ _ _ rfl (by kernel_rfl)), (@vR (XK k) xu rfl), (@vK (XK k) xI rfl), (@vS (XK k) lB lG kS rfl), (@vS (XK k) pg ld lB rfl), (@vO (XK k) pg _ _ _ rfl (by kernel_rfl)), (@vC (XK k) kU pJ ld (.tmp 6) rfl), (@vS (XK k) pT pb kU rfl), (@vO (XK k) pT _ _ _ rfl (by kernel_rfl)), (@vR (XK k) pb rfl), (@vK (XK k) pJ rfl), (@vS (XK k) lq nu lG rfl), (@vS (XK k) pO kC lq rfl), (@vO (XK k) pO _ _ _ rfl (by kernel_rfl)), (@vC (XK k) lc pc kC (.tmp 12) rfl), (@vS (XK k) o9 oN lc rfl), (@vO (XK k) o9 _ _ _ rfl (by kernel_rfl)), (@vR (XK k) oN rfl), (@vK (XK k) pc rfl), (@vS (XK k) nk lm pz rfl), (@vO (XK k) nk _ _ _ rfl (by kernel_rfl)), (@vC (XK k) kO pw lm (.tmp 15) rfl), (@vS (XK k) pS oC kO rfl), (@vO (XK k) pS _ _ _ rfl (by kernel_rfl)), (@vR (XK k) oC rfl), (@vK (XK k) pw rfl), (@vS (XK k) lz li oL rfl), (@vS (XK k) nd kD lz rfl), (@vO (XK k) nd _ _ _ rfl (by kernel_rfl)), (@vC (XK k) kB pr kD (.tmp 18) rfl), (@vS (XK k) o8 pd kB rfl), (@vO (XK k) o8 _ _ _ rfl (by kernel_rfl)), (@vR (XK k) pd rfl), (@vK (XK k) pr rfl), (@vS (XK k) kF lH li rfl), (@vS (XK k) nJ kH kF rfl), (@vO (XK k) nJ _ _ _ rfl (by kernel_rfl)), (@vC (XK k) kE pI kH (.tmp 21) rfl), (@vS (XK k) pG oP kE rfl), (@vO (XK k) pG _ _ _ rfl (by kernel_rfl)), (@vR (XK k) oP rfl), (@vK (XK k) pI rfl), (@vS (XK k) lL kQ lH rfl), (@vS (XK k) nx lj lL rfl), (@vO (XK k) nx _ _ _ rfl (by kernel_rfl)), (@vC (XK k) kN oT lj (.tmp 24) rfl), (@vS (XK k) pB pL kN rfl), (@vO (XK k) pB _ _ _ rfl (by kernel_rfl)), (@vR (XK k) pL rfl), (@vK (XK k) oT rfl), (@vS (XK k) lg kR kQ rfl), (@vS (XK k) np lE lg rfl), (@vO (XK k) np _ _ _ rfl (by kernel_rfl)), (@vC (XK k) ky pD lE (.tmp 27) rfl), (@vS (XK k) oI pH ky rfl), (@vO (XK k) oI _ _ _ rfl (by kernel_rfl)), (@vR (XK k) pH rfl), (@vK (XK k) pD rfl), (@vS (XK k) pf pq kR rfl), (@vO (XK k) pf _ _ _ rfl (by kernel_rfl)), (@vR (XK k) pq rfl)])) <;> (repeat' ((first | apply ao | apply aj | apply am | apply al | apply an | apply ak | apply ai | apply ag | apply ah) <;> intro hc <;> try (simp -implicitDefEqProofs (maxSteps := 2000000) (disch := first | omega | (simp only [ac, ae, ab]; first | done | omega)) only [push_cast, seval, (@vS (XK k) xr qk wX rfl), (@vO (XK k) xr _ _ _ rfl (by kernel_rfl)), (@vS (XK k) qg kS qk rfl), (@vS (XK k) xd qJ qg rfl), (@vO (XK k) xd _ _ _ rfl (by kernel_rfl)), (@vC (XK k) qL xI qJ (.tmp 4) rfl), (@vS (XK k) wy xu qL rfl), (@vO (XK k) wy _ _ _ rfl (by kernel_rfl)), (@vR (XK k) xu rfl), (@vK (XK k) xI rfl), (@vS (XK k) lB lG kS rfl), (@vS (XK k) pg ld lB rfl), (@vO (XK k) pg _ _ _ rfl (by kernel_rfl)), (@vC (XK k) kU pJ ld (.tmp 6) rfl), (@vS (XK k) pT pb kU rfl), (@vO (XK k) pT _ _ _ rfl (by kernel_rfl)), (@vR (XK k) pb rfl), (@vK (XK k) pJ rfl), (@vS (XK k) lq nu lG rfl), (@vS (XK k) pO kC lq rfl), (@vO (XK k) pO _ _ _ rfl (by kernel_rfl)), (@vC (XK k) lc pc kC (.tmp 12) rfl), (@vS (XK k) o9 oN lc rfl), (@vO (XK k) o9 _ _ _ rfl (by kernel_rfl)), (@vR (XK k) oN rfl), (@vK (XK k) pc rfl), (@vS (XK k) nk lm pz rfl), (@vO (XK k) nk _ _ _ rfl (by kernel_rfl)), (@vC (XK k) kO pw lm (.tmp 15) rfl), (@vS (XK k) pS oC kO rfl), (@vO (XK k) pS _ _ _ rfl (by kernel_rfl)), (@vR (XK k) oC rfl), (@vK (XK k) pw rfl), (@vS (XK k) lz li oL rfl), (@vS (XK k) nd kD lz rfl), (@vO (XK k) nd _ _ _ rfl (by kernel_rfl)), (@vC (XK k) kB pr kD (.tmp 18) rfl), (@vS (XK k) o8 pd kB rfl), (@vO (XK k) o8 _ _ _ rfl (by kernel_rfl)), (@vR (XK k) pd rfl), (@vK (XK k) pr rfl), (@vS (XK k) kF lH li rfl), (@vS (XK k) nJ kH kF rfl), (@vO (XK k) nJ _ _ _ rfl (by kernel_rfl)), (@vC (XK k) kE pI kH (.tmp 21) rfl), (@vS (XK k) pG oP kE rfl), (@vO (XK k) pG _ _ _ rfl (by kernel_rfl)), (@vR (XK k) oP rfl), (@vK (XK k) pI rfl), (@vS (XK k) lL kQ lH rfl), (@vS (XK k) nx lj lL rfl), (@vO (XK k) nx _ _ _ rfl (by kernel_rfl)), (@vC (XK k) kN oT lj (.tmp 24) rfl), (@vS (XK k) pB pL kN rfl), (@vO (XK k) pB _ _ _ rfl (by kernel_rfl)), (@vR (XK k) pL rfl), (@vK (XK k) oT rfl), (@vS (XK k) lg kR kQ rfl), (@vS (XK k) np lE lg rfl), (@vO (XK k) np _ _ _ rfl (by kernel_rfl)), (@vC (XK k) ky pD lE (.tmp 27) rfl), (@vS (XK k) oI pH ky rfl), (@vO (XK k) oI _ _ _ rfl (by kernel_rfl)), (@vR (XK k) pH rfl), (@vK (XK k) pD rfl), (@vS (XK k) pf pq kR rfl), (@vO (XK k) pf _ _ _ rfl (by kernel_rfl)), (@vR (XK k) pq rfl), hc])))
  · exact aD (by (repeat first | assumption | exact af.refl _ | apply af.push | refine af.set ?_ (by first | omega | (simp only [ac, ae, ab]; omega) | (have h9 := af.size_le (by assumption); (try simp only [ac, ae, ab] at *); omega)) _ | refine af.drop ?_ (by first | omega | (simp only [ac, ae, ab]; omega) | (have h9 := af.size_le (by assumption); (try simp only [ac, ae, ab] at *); omega)) | refine af.trans ?_ (by assumption))) (by simp [iW, *])
  · exact aD (by (repeat first | assumption | exact af.refl _ | apply af.push | refine af.set ?_ (by first | omega | (simp only [ac, ae, ab]; omega) | (have h9 := af.size_le (by assumption); (try simp only [ac, ae, ab] at *); omega)) _ | refine af.drop ?_ (by first | omega | (simp only [ac, ae, ab]; omega) | (have h9 := af.size_le (by assumption); (try simp only [ac, ae, ab] at *); omega)) | refine af.trans ?_ (by assumption))) (by simp [iW, *])
  · have h1 : ¬ v ≤ 31 := by omega
    have h2 : ¬ v = 127 := by omega
    exact aD (by (repeat first | assumption | exact af.refl _ | apply af.push | refine af.set ?_ (by first | omega | (simp only [ac, ae, ab]; omega) | (have h9 := af.size_le (by assumption); (try simp only [ac, ae, ab] at *); omega)) _ | refine af.drop ?_ (by first | omega | (simp only [ac, ae, ab]; omega) | (have h9 := af.size_le (by assumption); (try simp only [ac, ae, ab] at *); omega)) | refine af.trans ?_ (by assumption))) (by simp [iW, *])
  all_goals exact tail _ (by (((try simp -implicitDefEqProofs only [aw, aq, au.get_set, ar, List.getD_cons_zero, List.getD_cons_succ, ↓reduceIte, reduceCtorEq, Nat.reduceEqDiff]); try (first | (with_reducible assumption) | (with_reducible rfl) | (congr 2 <;> omega) | rfl)))) (by omega) (by omega) (by omega)
theorem Kr (v : Int) : PC (XK k) 64 [.c (.int .i64 v)] (.c (.int .i64 (jD v))) := by
  refine aI fun s => ?_
  refine auO (hk _ (by decide) (by decide)) ?_
  simp -implicitDefEqProofs (maxSteps := 2000000) (disch := first | omega | (simp only [ac, ae, ab]; first | done | omega)) only [push_cast, seval, wZ, xC, xE]
  rw [gR qx ty3 (l := SL) (by kernel_rfl) (by kernel_rfl) rfl]
  simp -implicitDefEqProofs (maxSteps := 2000000) (disch := first | omega | (simp only [ac, ae, ab]; first | done | omega)) only [push_cast, seval, wZ, xC, xE]
  refine aM (fun m ρ s' => ∃ i : Nat, m = 51 - i ∧ i ≤ 51 ∧ ρ.get 0 = .c (.int .i64 v) ∧ ρ.get 3 = .sl ⟨s.size, 0, none⟩ 51 (bJ 51) ∧ ρ.get 4 = .c (.string SS) ∧ ρ.get 5 = .c (.int .i64 i) ∧ (s' = s.push (.own ⟨SL.map fun x => .c (.int .i64 x), 3, 0, 0, false⟩)) ∧ (jD v = qi v (SL.drop i) (SS.data.toList.drop i))) (51) ⟨0, rfl, Nat.zero_le _, by (((try simp -implicitDefEqProofs only [aw, aq, au.get_set, ar, List.getD_cons_zero, List.getD_cons_succ, ↓reduceIte, reduceCtorEq, Nat.reduceEqDiff]); try (first | (with_reducible assumption) | (with_reducible rfl) | (congr 2 <;> omega) | rfl))), by (((try simp -implicitDefEqProofs only [aw, aq, au.get_set, ar, List.getD_cons_zero, List.getD_cons_succ, ↓reduceIte, reduceCtorEq, Nat.reduceEqDiff]); try (first | (with_reducible assumption) | (with_reducible rfl) | (congr 2 <;> omega) | rfl))), by (((try simp -implicitDefEqProofs only [aw, aq, au.get_set, ar, List.getD_cons_zero, List.getD_cons_succ, ↓reduceIte, reduceCtorEq, Nat.reduceEqDiff]); try (first | (with_reducible assumption) | (with_reducible rfl) | (congr 2 <;> omega) | rfl))), by (((try simp -implicitDefEqProofs only [aw, aq, au.get_set, ar, List.getD_cons_zero, List.getD_cons_succ, ↓reduceIte, reduceCtorEq, Nat.reduceEqDiff]); try (first | (with_reducible assumption) | (with_reducible rfl) | (congr 2 <;> omega) | rfl))), rfl, rfl⟩ ?_
  rintro m ρ s' ⟨i, rfl, hi, g0, g3, g4, g5, j1, j2⟩
  subst j1
  simp -implicitDefEqProofs (maxSteps := 2000000) (disch := first | omega | (simp only [ac, ae, ab]; first | done | omega)) only [push_cast, seval, wZ, xC, xE, g0, g3, g4, g5]
  refine am (fun hc => ?_) (fun hc => ?_)
  · obtain ⟨x, hx⟩ : ∃ x, SL[i]? = some x := ⟨_, List.getElem?_eq_getElem (by rw [JI]; omega)⟩
    obtain ⟨y, hy⟩ : ∃ y, SS.data.toList[i]? = some y := ⟨_, List.getElem?_eq_getElem (by rw [auC]; omega)⟩
    have hsz : SS.size = 51 := by kernel_rfl
    rw [gF hx, gF hy] at j2
    have r0 : ((SL.map fun x => AV.c (.int .i64 x)).drop i).take 1 = [.c (.int .i64 x)] := iZ (by rw [List.getElem?_map, hx]; rfl)
    have hlen : SL.length = 51 := JI
    simp only [qi] at j2
    have hb : (0 : Int) ≤ y.toNat ∧ (y.toNat : Int) ≤ 255 := by have := y.toNat_lt; omega
    simp only [TT, Z6] at r0
    (try (simp -implicitDefEqProofs (maxSteps := 2000000) (disch := first | omega | (simp only [ac, ae, ab]; first | done | omega)) only [push_cast, seval, wZ, xC, xE, g0, g3, g4, g5, r0, hsz, hy, hlen])) <;> (repeat' ((first | apply ao | apply aj | apply am | apply al | apply an | apply ak | apply ai | apply ag | apply ah) <;> intro hc <;> try (simp -implicitDefEqProofs (maxSteps := 2000000) (disch := first | omega | (simp only [ac, ae, ab]; first | done | omega)) only [push_cast, seval, wZ, xC, xE, hc, g0, g3, g4, g5, r0, hsz, hy, hlen])))
    · exact aD (by (repeat first | assumption | exact af.refl _ | apply af.push | refine af.set ?_ (by first | omega | (simp only [ac, ae, ab]; omega) | (have h9 := af.size_le (by assumption); (try simp only [ac, ae, ab] at *); omega)) _ | refine af.drop ?_ (by first | omega | (simp only [ac, ae, ab]; omega) | (have h9 := af.size_le (by assumption); (try simp only [ac, ae, ab] at *); omega)) | refine af.trans ?_ (by assumption))) (by rw [j2, if_pos hc])
    · exact ⟨51 - (i + 1), by omega, i + 1, rfl, by omega, by congr 2, by rw [j2, if_neg hc]⟩
  · simp -implicitDefEqProofs (maxSteps := 2000000) (disch := first | omega | (simp only [ac, ae, ab]; first | done | omega)) only [push_cast, seval, wZ, xC, xE, g0]
    have : i = 51 := by omega
    subst this
    rw [List.drop_eq_nil_of_le (by rw [JI]; omega)] at j2
    exact aD (by (repeat first | assumption | exact af.refl _ | apply af.push | refine af.set ?_ (by first | omega | (simp only [ac, ae, ab]; omega) | (have h9 := af.size_le (by assumption); (try simp only [ac, ae, ab] at *); omega)) _ | refine af.drop ?_ (by first | omega | (simp only [ac, ae, ab]; omega) | (have h9 := af.size_le (by assumption); (try simp only [ac, ae, ab] at *); omega)) | refine af.trans ?_ (by assumption))) j2.symm
theorem WK (v : Int) : PC (XK k) 36 [.c (.int .i64 v)] (.c (.int .i64 (mC v))) := by
  refine aI fun s => ?_
  refine asQ (hk _ (by decide) (by decide)) ?_
  (try (simp -implicitDefEqProofs (maxSteps := 2000000) (disch := first | omega | (simp only [ac, ae, ab]; first | done | omega)) only [push_cast, seval, lD, kL, kG, lJ])) <;> (repeat' ((first | apply ao | apply aj | apply am | apply al | apply an | apply ak | apply ai | apply ag | apply ah) <;> intro hc <;> try (simp -implicitDefEqProofs (maxSteps := 2000000) (disch := first | omega | (simp only [ac, ae, ab]; first | done | omega)) only [push_cast, seval, lD, kL, kG, lJ, hc])))
  refine ap (Tc hk _) ?_
  (try (simp -implicitDefEqProofs (maxSteps := 2000000) (disch := first | omega | (simp only [ac, ae, ab]; first | done | omega)) only [push_cast, seval, lD, kL, kG, lJ])) <;> (repeat' ((first | apply ao | apply aj | apply am | apply al | apply an | apply ak | apply ai | apply ag | apply ah) <;> intro hc <;> try (simp -implicitDefEqProofs (maxSteps := 2000000) (disch := first | omega | (simp only [ac, ae, ab]; first | done | omega)) only [push_cast, seval, lD, kL, kG, lJ, hc])))
  · exact aD (by (repeat first | assumption | exact af.refl _ | apply af.push | refine af.set ?_ (by first | omega | (simp only [ac, ae, ab]; omega) | (have h9 := af.size_le (by assumption); (try simp only [ac, ae, ab] at *); omega)) _ | refine af.drop ?_ (by first | omega | (simp only [ac, ae, ab]; omega) | (have h9 := af.size_le (by assumption); (try simp only [ac, ae, ab] at *); omega)) | refine af.trans ?_ (by assumption))) (by simp_all [mC])
  · exact aD (by (repeat first | assumption | exact af.refl _ | apply af.push | refine af.set ?_ (by first | omega | (simp only [ac, ae, ab]; omega) | (have h9 := af.size_le (by assumption); (try simp only [ac, ae, ab] at *); omega)) _ | refine af.drop ?_ (by first | omega | (simp only [ac, ae, ab]; omega) | (have h9 := af.size_le (by assumption); (try simp only [ac, ae, ab] at *); omega)) | refine af.trans ?_ (by assumption))) (by simp_all [mC])
  refine ap (asC hk _) ?_
  (try (simp -implicitDefEqProofs (maxSteps := 2000000) (disch := first | omega | (simp only [ac, ae, ab]; first | done | omega)) only [push_cast, seval, lD, kL, kG, lJ])) <;> (repeat' ((first | apply ao | apply aj | apply am | apply al | apply an | apply ak | apply ai | apply ag | apply ah) <;> intro hc <;> try (simp -implicitDefEqProofs (maxSteps := 2000000) (disch := first | omega | (simp only [ac, ae, ab]; first | done | omega)) only [push_cast, seval, lD, kL, kG, lJ, hc])))
  · exact aD (by (repeat first | assumption | exact af.refl _ | apply af.push | refine af.set ?_ (by first | omega | (simp only [ac, ae, ab]; omega) | (have h9 := af.size_le (by assumption); (try simp only [ac, ae, ab] at *); omega)) _ | refine af.drop ?_ (by first | omega | (simp only [ac, ae, ab]; omega) | (have h9 := af.size_le (by assumption); (try simp only [ac, ae, ab] at *); omega)) | refine af.trans ?_ (by assumption))) (by simp_all [mC]; intro; omega)
  refine ap (Kr hk _) ?_
  (try (simp -implicitDefEqProofs (maxSteps := 2000000) (disch := first | omega | (simp only [ac, ae, ab]; first | done | omega)) only [push_cast, seval, lD, kL, kG, lJ])) <;> (repeat' ((first | apply ao | apply aj | apply am | apply al | apply an | apply ak | apply ai | apply ag | apply ah) <;> intro hc <;> try (simp -implicitDefEqProofs (maxSteps := 2000000) (disch := first | omega | (simp only [ac, ae, ab]; first | done | omega)) only [push_cast, seval, lD, kL, kG, lJ, hc])))
  · exact aD (by (repeat first | assumption | exact af.refl _ | apply af.push | refine af.set ?_ (by first | omega | (simp only [ac, ae, ab]; omega) | (have h9 := af.size_le (by assumption); (try simp only [ac, ae, ab] at *); omega)) _ | refine af.drop ?_ (by first | omega | (simp only [ac, ae, ab]; omega) | (have h9 := af.size_le (by assumption); (try simp only [ac, ae, ab] at *); omega)) | refine af.trans ?_ (by assumption))) (by simp_all [mC]; omega)
  rw [gR qx ty3 (l := WL) (by kernel_rfl) (by kernel_rfl) rfl]
  simp -implicitDefEqProofs (maxSteps := 2000000) (disch := first | omega | (simp only [ac, ae, ab]; first | done | omega)) only [push_cast, seval, lD, kL, kG, lJ]
  refine lU (gL hk v WL (by show 34 < 1000; omega)) (az.c _) (fA.c _) (bB rfl) (by kernel_rfl) (by rw [bA]; omega) ?_
  (try (simp -implicitDefEqProofs (maxSteps := 2000000) (disch := first | omega | (simp only [ac, ae, ab]; first | done | omega)) only [push_cast, seval, lD, kL, kG, lJ])) <;> (repeat' ((first | apply ao | apply aj | apply am | apply al | apply an | apply ak | apply ai | apply ag | apply ah) <;> intro hc <;> try (simp -implicitDefEqProofs (maxSteps := 2000000) (disch := first | omega | (simp only [ac, ae, ab]; first | done | omega)) only [push_cast, seval, lD, kL, kG, lJ, hc])))
  · exact aD (by (repeat first | assumption | exact af.refl _ | apply af.push | refine af.set ?_ (by first | omega | (simp only [ac, ae, ab]; omega) | (have h9 := af.size_le (by assumption); (try simp only [ac, ae, ab] at *); omega)) _ | refine af.drop ?_ (by first | omega | (simp only [ac, ae, ab]; omega) | (have h9 := af.size_le (by assumption); (try simp only [ac, ae, ab] at *); omega)) | refine af.trans ?_ (by assumption))) (by simp_all [mC]; omega)
  · exact aD (by (repeat first | assumption | exact af.refl _ | apply af.push | refine af.set ?_ (by first | omega | (simp only [ac, ae, ab]; omega) | (have h9 := af.size_le (by assumption); (try simp only [ac, ae, ab] at *); omega)) _ | refine af.drop ?_ (by first | omega | (simp only [ac, ae, ab]; omega) | (have h9 := af.size_le (by assumption); (try simp only [ac, ae, ab] at *); omega)) | refine af.trans ?_ (by assumption))) (by simp_all [mC]; omega)
end
end Go.Proofs.YticllcglldbffaaDoor.Ab
