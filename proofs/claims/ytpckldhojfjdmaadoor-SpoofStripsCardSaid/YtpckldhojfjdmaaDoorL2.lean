/- Classes of values: the tables, walked. -/
import Derived.Test.YtpckldhojfjdmaaDoorL1
namespace Go.Proofs.YtpckldhojfjdmaaDoor.Ab
open Go.Proofs
set_option maxRecDepth 100000
set_option maxHeartbeats 2000000
set_option linter.unusedSimpArgs false
set_option linter.unusedVariables false
set_option linter.unnecessarySimpa false
def laidC (g : Nat) : List Value := ((laid.find? (·.1 == g)).map (·.2)).getD []
def RT : List (Int × Int × Int) := tri (laidC 0)
def LT : List (Int × Int) := two (laidC 1)
theorem rt_cells : laidC 0 = RT.flatMap (enc3 .i32) := by kernel_rfl
theorem lt_cells : laidC 1 = LT.flatMap (enc2 .i32) := by kernel_rfl
theorem rt_len : RT.length = 56 := by kernel_rfl
theorem lt_len : LT.length = 51 := by kernel_rfl
theorem rt_small : (RT.all fun p => decide (0 ≤ p.1) && decide (p.1 ≤ 2000000) && (decide (0 ≤ p.2.1) && decide (p.2.1 ≤ 2000000)) && (decide (0 ≤ p.2.2) && decide (p.2.2 ≤ 2000000))) = true := by kernel_rfl
theorem lt_small : (LT.all fun p => decide (0 ≤ p.1) && decide (p.1 ≤ 2000000) && (decide (0 ≤ p.2) && decide (p.2 ≤ 2000000))) = true := by kernel_rfl
def tabR : List AV := (laidC 0).map .c
def tabL : List AV := (laidC 1).map .c
theorem tabR_len : tabR.length = 168 := by kernel_rfl
theorem tabL_len : tabL.length = 102 := by kernel_rfl
theorem globA_laid {X : Prg} {g : Nat} {cs : List Value} (h : X.laid.find? (fun p => p.1 == g) = some (g, cs)) : globA X g = .fptr (cs.map .c) 0 := by unfold globA; rw [h]
theorem one_cell {l : List AV} {n : Nat} {v : AV} (h : l[n]? = some v) : (l.drop n).take 1 = [v] := by
  have hl := (List.getElem?_eq_some_iff.1 h).1
  rw [List.drop_eq_getElem_cons hl, (List.getElem?_eq_some_iff.1 h).2]; rfl
theorem rt_at {i : Nat} (hi : i < 56) : ∃ a b c, RT[i]? = some (a, b, c) ∧ (0 ≤ a ∧ a ≤ 2000000) ∧ (0 ≤ b ∧ b ≤ 2000000) ∧ (0 ≤ c ∧ c ≤ 2000000) ∧
    (tabR.drop (i * 3)).take 1 = [.c (.int .i32 a)] ∧ (tabR.drop (i * 3 + 1)).take 1 = [.c (.int .i32 b)] ∧ (tabR.drop (i * 3 + 2)).take 1 = [.c (.int .i32 c)] := by
  have hl : i < RT.length := by rw [rt_len]; exact hi
  obtain ⟨⟨a, b, c⟩, hg⟩ : ∃ p, RT[i]? = some p := ⟨_, List.getElem?_eq_getElem hl⟩
  have hs := List.all_eq_true.1 rt_small _ (List.mem_of_getElem? hg)
  simp only [Bool.and_eq_true, decide_eq_true_eq] at hs
  have q := fun j (hj : j < 3) => flatMap_get (enc3 .i32) 3 (fun _ => rfl) RT i j _ hg hj
  have q' : ∀ (j : Nat) (v : Value), (enc3 .i32 (a, b, c))[j]? = some v → j < 3 → tabR[i * 3 + j]? = some (.c v) := fun j v hv hj => by
    unfold tabR
    rw [rt_cells, List.getElem?_map, q j hj, hv]; rfl
  exact ⟨a, b, c, hg, hs.1.1, hs.1.2, hs.2, one_cell (q' 0 _ rfl (by omega)), one_cell (q' 1 _ rfl (by omega)), one_cell (q' 2 _ rfl (by omega))⟩
theorem lt_at {i : Nat} (hi : i < 51) : ∃ a b, LT[i]? = some (a, b) ∧ (0 ≤ a ∧ a ≤ 2000000) ∧ (0 ≤ b ∧ b ≤ 2000000) ∧
    (tabL.drop (i * 2)).take 1 = [.c (.int .i32 a)] ∧ (tabL.drop (i * 2 + 1)).take 1 = [.c (.int .i32 b)] := by
  have hl : i < LT.length := by rw [lt_len]; exact hi
  obtain ⟨⟨a, b⟩, hg⟩ : ∃ p, LT[i]? = some p := ⟨_, List.getElem?_eq_getElem hl⟩
  have hs := List.all_eq_true.1 lt_small _ (List.mem_of_getElem? hg)
  simp only [Bool.and_eq_true, decide_eq_true_eq] at hs
  have q := fun j (hj : j < 2) => flatMap_get (enc2 .i32) 2 (fun _ => rfl) LT i j _ hg hj
  have q' : ∀ (j : Nat) (v : Value), (enc2 .i32 (a, b))[j]? = some v → j < 2 → tabL[i * 2 + j]? = some (.c v) := fun j v hv hj => by
    unfold tabL
    rw [lt_cells, List.getElem?_map, q j hj, hv]; rfl
  exact ⟨a, b, hg, hs.1, hs.2, one_cell (q' 0 _ rfl (by omega)), one_cell (q' 1 _ rfl (by omega))⟩
attribute [irreducible] tabR tabL
def firstR (q : Int → Bool) (v : Int) : List (Int × Int × Int) → Int
  | [] => 0
  | (a, b, c) :: l => if q c && (decide (a ≤ v) && decide (v ≤ b)) then c else firstR q v l
def firstL (v : Int) : List (Int × Int) → Option Int
  | [] => none
  | (a, b) :: l => if a = v then some b else firstL v l
def classOf (v : Int) : Int :=
  if right v = true then
    if 1114111 < v then 12
    else if firstR (fun c => decide (c ≠ 2)) v RT ≠ 0 then firstR (fun c => decide (c ≠ 2)) v RT
    else if (firstL v LT).isSome then 3
    else if firstR (fun c => decide (c = 2)) v RT ≠ 0 then firstR (fun c => decide (c = 2)) v RT
    else 1
  else 0
def alikeR (o : Option Int) : AV := match o with | some b => .tup [.c (.int .i64 b), .c (.bool true)] | none => .tup [.c (.int .i64 0), .c (.bool false)]
def skelOf (v : Int) : Int := (firstL v LT).getD v
section
variable {k : Nat → List Value → Option Value}
theorem globR : globA (XK k) 0 = .fptr tabR 0 := by
  unfold tabR
  exact globA_laid (X := XK k) (show laid.find? _ = _ by kernel_rfl)
theorem globL : globA (XK k) 1 = .fptr tabL 0 := by
  unfold tabL
  exact globA_laid (X := XK k) (show laid.find? _ = _ by kernel_rfl)
variable (hk : ∀ f, f ≠ 95 → Open k f)
include hk
theorem finder1_ok (v : Int) (g : Nat) (q : Int → Bool) (hq : ∀ c, PC (XK k) g [.c (.int .i64 c)] (.c (.bool (q c)))) :
    PC (XK k) 107 [.fn g [] [], .fptr [.c (.int .i64 v)] 0] (.c (.int .i64 (firstR q v RT))) := by
  refine PC_of fun s => ?_
  refine f107_in (hk _ (by decide)) ?_
  (try (simp -implicitDefEqProofs (maxSteps := 2000000) (disch := first | omega | (simp only [vz_push, vz_set, drop_size]; first | done | omega)) only [push_cast, seval, f107N0, f107N1, f107N2])) <;> (repeat' ((first | apply ga_dec | apply ga_ndec | apply cd_dec | apply cd_ndec | apply gd_dec | apply gd_ndec | apply ga_split | apply cd_split | apply gd_split) <;> intro hc <;> try (simp -implicitDefEqProofs (maxSteps := 2000000) (disch := first | omega | (simp only [vz_push, vz_set, drop_size]; first | done | omega)) only [push_cast, seval, f107N0, f107N1, f107N2, hc])))
  refine VW_iter (fun m ρ s' => ∃ i : Nat, m = 56 - i ∧ i ≤ 56 ∧ ρ.get 0 = .fn g [] [] ∧ ρ.get 1 = .fptr [.c (.int .i64 v)] 0 ∧ ρ.get 4 = .c (.int .i64 ((i * 3 : Nat) : Int)) ∧ (s' = s) ∧ (firstR q v RT = firstR q v (RT.drop i))) (56) ⟨0, rfl, Nat.zero_le _, by (((try simp -implicitDefEqProofs only [eA_tmp, eA_const, AEnv.get_set, ofA_get, List.getD_cons_zero, List.getD_cons_succ, ↓reduceIte, reduceCtorEq, Nat.reduceEqDiff]); try (first | (with_reducible assumption) | (with_reducible rfl) | (congr 2 <;> omega) | rfl))), by (((try simp -implicitDefEqProofs only [eA_tmp, eA_const, AEnv.get_set, ofA_get, List.getD_cons_zero, List.getD_cons_succ, ↓reduceIte, reduceCtorEq, Nat.reduceEqDiff]); try (first | (with_reducible assumption) | (with_reducible rfl) | (congr 2 <;> omega) | rfl))), by (((try simp -implicitDefEqProofs only [eA_tmp, eA_const, AEnv.get_set, ofA_get, List.getD_cons_zero, List.getD_cons_succ, ↓reduceIte, reduceCtorEq, Nat.reduceEqDiff]); try (first | (with_reducible assumption) | (with_reducible rfl) | (congr 2 <;> omega) | rfl))), rfl, rfl⟩ ?_
  rintro m ρ s' ⟨i, rfl, hi, g0, g1, g4, j1, j2⟩
  subst j1
  simp -implicitDefEqProofs (maxSteps := 2000000) (disch := first | omega | (simp only [vz_push, vz_set, drop_size]; first | done | omega)) only [push_cast, seval, f107N0, f107N1, f107N2, g4]
  refine cd_dec (fun hc => ?_) (fun hc => ?_)
  · obtain ⟨ra, rb, rc, hr, h1, h2, h3, r0, r1, r2⟩ := rt_at (show i < 56 by omega)
    rw [drop_at hr] at j2
    have e1 : firstR q v ((ra, rb, rc) :: RT.drop (i + 1)) = if q rc && (decide (ra ≤ v) && decide (v ≤ rb)) then rc else firstR q v (RT.drop (i + 1)) := rfl
    rw [e1] at j2
    simp -implicitDefEqProofs (maxSteps := 2000000) (disch := first | omega | (simp only [vz_push, vz_set, drop_size]; first | done | omega)) only [push_cast, seval, f107N0, f107N1, f107N2, g4, g0, g1, globR, tabR_len, r2]
    refine VC_pure (hq _) ?_
    (try (simp -implicitDefEqProofs (maxSteps := 2000000) (disch := first | omega | (simp only [vz_push, vz_set, drop_size]; first | done | omega)) only [push_cast, seval, f107N0, f107N1, f107N2, g4, g0, g1, globR, tabR_len, r0, r1, r2])) <;> (repeat' ((first | apply ga_dec | apply ga_ndec | apply cd_dec | apply cd_ndec | apply gd_dec | apply gd_ndec | apply ga_split | apply cd_split | apply gd_split) <;> intro hc <;> try (simp -implicitDefEqProofs (maxSteps := 2000000) (disch := first | omega | (simp only [vz_push, vz_set, drop_size]; first | done | omega)) only [push_cast, seval, f107N0, f107N1, f107N2, hc, g4, g0, g1, globR, tabR_len, r0, r1, r2])))
    · exact out_int (by (repeat first | assumption | exact KeepA.refl _ | apply KeepA.push | refine KeepA.set ?_ (by first | omega | (simp only [vz_push, vz_set, drop_size]; omega) | (have h9 := KeepA.size_le (by assumption); (try simp only [vz_push, vz_set, drop_size] at *); omega)) _ | refine KeepA.drop ?_ (by first | omega | (simp only [vz_push, vz_set, drop_size]; omega) | (have h9 := KeepA.size_le (by assumption); (try simp only [vz_push, vz_set, drop_size] at *); omega)) | refine KeepA.trans ?_ (by assumption))) (by simp only [j2, if_pos, *, and_self, decide_true, Bool.and_self])
    all_goals exact ⟨56 - (i + 1), by omega, i + 1, rfl, by omega, by congr 2; omega, (by simpa [*] using j2)⟩
  · simp -implicitDefEqProofs (maxSteps := 2000000) (disch := first | omega | (simp only [vz_push, vz_set, drop_size]; first | done | omega)) only [push_cast, seval, f107N0, f107N1, f107N2]
    have : i = 56 := by omega
    subst this
    rw [List.drop_eq_nil_of_le (by rw [rt_len]; omega)] at j2
    exact out_int (by (repeat first | assumption | exact KeepA.refl _ | apply KeepA.push | refine KeepA.set ?_ (by first | omega | (simp only [vz_push, vz_set, drop_size]; omega) | (have h9 := KeepA.size_le (by assumption); (try simp only [vz_push, vz_set, drop_size] at *); omega)) _ | refine KeepA.drop ?_ (by first | omega | (simp only [vz_push, vz_set, drop_size]; omega) | (have h9 := KeepA.size_le (by assumption); (try simp only [vz_push, vz_set, drop_size] at *); omega)) | refine KeepA.trans ?_ (by assumption))) j2.symm
theorem alike_ok (v : Int) : PC (XK k) 91 [.c (.int .i64 v)] (alikeR (firstL v LT)) := by
  refine PC_of fun s => ?_
  refine f91_in (hk _ (by decide)) ?_
  (try (simp -implicitDefEqProofs (maxSteps := 2000000) (disch := first | omega | (simp only [vz_push, vz_set, drop_size]; first | done | omega)) only [push_cast, seval, f91N0, f91N1, f91N2])) <;> (repeat' ((first | apply ga_dec | apply ga_ndec | apply cd_dec | apply cd_ndec | apply gd_dec | apply gd_ndec | apply ga_split | apply cd_split | apply gd_split) <;> intro hc <;> try (simp -implicitDefEqProofs (maxSteps := 2000000) (disch := first | omega | (simp only [vz_push, vz_set, drop_size]; first | done | omega)) only [push_cast, seval, f91N0, f91N1, f91N2, hc])))
  refine VW_iter (fun m ρ s' => ∃ i : Nat, m = 51 - i ∧ i ≤ 51 ∧ ρ.get 0 = .c (.int .i64 v) ∧ ρ.get 4 = .c (.int .i64 ((i * 2 : Nat) : Int)) ∧ (s' = s) ∧ (firstL v LT = firstL v (LT.drop i))) (51) ⟨0, rfl, Nat.zero_le _, by (((try simp -implicitDefEqProofs only [eA_tmp, eA_const, AEnv.get_set, ofA_get, List.getD_cons_zero, List.getD_cons_succ, ↓reduceIte, reduceCtorEq, Nat.reduceEqDiff]); try (first | (with_reducible assumption) | (with_reducible rfl) | (congr 2 <;> omega) | rfl))), by (((try simp -implicitDefEqProofs only [eA_tmp, eA_const, AEnv.get_set, ofA_get, List.getD_cons_zero, List.getD_cons_succ, ↓reduceIte, reduceCtorEq, Nat.reduceEqDiff]); try (first | (with_reducible assumption) | (with_reducible rfl) | (congr 2 <;> omega) | rfl))), rfl, rfl⟩ ?_
  rintro m ρ s' ⟨i, rfl, hi, g0, g4, j1, j2⟩
  subst j1
  simp -implicitDefEqProofs (maxSteps := 2000000) (disch := first | omega | (simp only [vz_push, vz_set, drop_size]; first | done | omega)) only [push_cast, seval, f91N0, f91N1, f91N2, g4]
  refine cd_dec (fun hc => ?_) (fun hc => ?_)
  · obtain ⟨ra, rb, hr, h1, h2, r0, r1⟩ := lt_at (show i < 51 by omega)
    rw [drop_at hr] at j2
    have e1 : firstL v ((ra, rb) :: LT.drop (i + 1)) = if ra = v then some rb else firstL v (LT.drop (i + 1)) := rfl
    rw [e1] at j2
    (try (simp -implicitDefEqProofs (maxSteps := 2000000) (disch := first | omega | (simp only [vz_push, vz_set, drop_size]; first | done | omega)) only [push_cast, seval, f91N0, f91N1, f91N2, g4, g0, globL, tabL_len, r0, r1])) <;> (repeat' ((first | apply ga_dec | apply ga_ndec | apply cd_dec | apply cd_ndec | apply gd_dec | apply gd_ndec | apply ga_split | apply cd_split | apply gd_split) <;> intro hc <;> try (simp -implicitDefEqProofs (maxSteps := 2000000) (disch := first | omega | (simp only [vz_push, vz_set, drop_size]; first | done | omega)) only [push_cast, seval, f91N0, f91N1, f91N2, hc, g4, g0, globL, tabL_len, r0, r1])))
    · rw [j2, if_pos (by omega)]
      exact out_firm (by (repeat first | assumption | exact KeepA.refl _ | apply KeepA.push | refine KeepA.set ?_ (by first | omega | (simp only [vz_push, vz_set, drop_size]; omega) | (have h9 := KeepA.size_le (by assumption); (try simp only [vz_push, vz_set, drop_size] at *); omega)) _ | refine KeepA.drop ?_ (by first | omega | (simp only [vz_push, vz_set, drop_size]; omega) | (have h9 := KeepA.size_le (by assumption); (try simp only [vz_push, vz_set, drop_size] at *); omega)) | refine KeepA.trans ?_ (by assumption))) rfl (Firm.tup (FirmR.cons (Firm.c _) (FirmR.cons (Firm.c _) FirmR.nil)))
    · exact ⟨51 - (i + 1), by omega, i + 1, rfl, by omega, by congr 2; omega, (by simpa [*] using j2)⟩
  · simp -implicitDefEqProofs (maxSteps := 2000000) (disch := first | omega | (simp only [vz_push, vz_set, drop_size]; first | done | omega)) only [push_cast, seval, f91N0, f91N1, f91N2]
    have : i = 51 := by omega
    subst this
    rw [List.drop_eq_nil_of_le (by rw [lt_len]; omega)] at j2
    rw [j2]
    exact out_firm (by (repeat first | assumption | exact KeepA.refl _ | apply KeepA.push | refine KeepA.set ?_ (by first | omega | (simp only [vz_push, vz_set, drop_size]; omega) | (have h9 := KeepA.size_le (by assumption); (try simp only [vz_push, vz_set, drop_size] at *); omega)) _ | refine KeepA.drop ?_ (by first | omega | (simp only [vz_push, vz_set, drop_size]; omega) | (have h9 := KeepA.size_le (by assumption); (try simp only [vz_push, vz_set, drop_size] at *); omega)) | refine KeepA.trans ?_ (by assumption))) rfl (Firm.tup (FirmR.cons (Firm.c _) (FirmR.cons (Firm.c _) FirmR.nil)))
theorem of1_ok (c : Int) : PC (XK k) 90 [.c (.int .i64 c)] (.c (.bool (decide (c ≠ 2)))) := by
  refine PC_of fun s => ?_
  refine f90_in (hk _ (by decide)) ?_
  (try (simp -implicitDefEqProofs (maxSteps := 2000000) (disch := first | omega | (simp only [vz_push, vz_set, drop_size]; first | done | omega)) only [push_cast, seval, f90N0])) <;> (repeat' ((first | apply ga_dec | apply ga_ndec | apply cd_dec | apply cd_ndec | apply gd_dec | apply gd_ndec | apply ga_split | apply cd_split | apply gd_split) <;> intro hc <;> try (simp -implicitDefEqProofs (maxSteps := 2000000) (disch := first | omega | (simp only [vz_push, vz_set, drop_size]; first | done | omega)) only [push_cast, seval, f90N0, hc])))
  exact out_bool (by (repeat first | assumption | exact KeepA.refl _ | apply KeepA.push | refine KeepA.set ?_ (by first | omega | (simp only [vz_push, vz_set, drop_size]; omega) | (have h9 := KeepA.size_le (by assumption); (try simp only [vz_push, vz_set, drop_size] at *); omega)) _ | refine KeepA.drop ?_ (by first | omega | (simp only [vz_push, vz_set, drop_size]; omega) | (have h9 := KeepA.size_le (by assumption); (try simp only [vz_push, vz_set, drop_size] at *); omega)) | refine KeepA.trans ?_ (by assumption))) (by simp)
theorem of2_ok (c : Int) : PC (XK k) 92 [.c (.int .i64 c)] (.c (.bool (decide (c = 2)))) := by
  refine PC_of fun s => ?_
  refine f92_in (hk _ (by decide)) ?_
  (try (simp -implicitDefEqProofs (maxSteps := 2000000) (disch := first | omega | (simp only [vz_push, vz_set, drop_size]; first | done | omega)) only [push_cast, seval, f92N0])) <;> (repeat' ((first | apply ga_dec | apply ga_ndec | apply cd_dec | apply cd_ndec | apply gd_dec | apply gd_ndec | apply ga_split | apply cd_split | apply gd_split) <;> intro hc <;> try (simp -implicitDefEqProofs (maxSteps := 2000000) (disch := first | omega | (simp only [vz_push, vz_set, drop_size]; first | done | omega)) only [push_cast, seval, f92N0, hc])))
  exact out_bool (by (repeat first | assumption | exact KeepA.refl _ | apply KeepA.push | refine KeepA.set ?_ (by first | omega | (simp only [vz_push, vz_set, drop_size]; omega) | (have h9 := KeepA.size_le (by assumption); (try simp only [vz_push, vz_set, drop_size] at *); omega)) _ | refine KeepA.drop ?_ (by first | omega | (simp only [vz_push, vz_set, drop_size]; omega) | (have h9 := KeepA.size_le (by assumption); (try simp only [vz_push, vz_set, drop_size] at *); omega)) | refine KeepA.trans ?_ (by assumption))) rfl
theorem finder_ok (v : Int) : PC (XK k) 89 [.c (.int .i64 v)] (.fn 107 [] [.fptr [.c (.int .i64 v)] 0]) := by
  refine PC_of fun s => ?_
  refine f89_in (hk _ (by decide)) ?_
  (try (simp -implicitDefEqProofs (maxSteps := 2000000) (disch := first | omega | (simp only [vz_push, vz_set, drop_size]; first | done | omega)) only [push_cast, seval, f89N0])) <;> (repeat' ((first | apply ga_dec | apply ga_ndec | apply cd_dec | apply cd_ndec | apply gd_dec | apply gd_ndec | apply ga_split | apply cd_split | apply gd_split) <;> intro hc <;> try (simp -implicitDefEqProofs (maxSteps := 2000000) (disch := first | omega | (simp only [vz_push, vz_set, drop_size]; first | done | omega)) only [push_cast, seval, f89N0, hc])))
  exact ⟨by (repeat first | assumption | exact KeepA.refl _ | apply KeepA.push | refine KeepA.set ?_ (by first | omega | (simp only [vz_push, vz_set, drop_size]; omega) | (have h9 := KeepA.size_le (by assumption); (try simp only [vz_push, vz_set, drop_size] at *); omega)) _ | refine KeepA.drop ?_ (by first | omega | (simp only [vz_push, vz_set, drop_size]; omega) | (have h9 := KeepA.size_le (by assumption); (try simp only [vz_push, vz_set, drop_size] at *); omega)) | refine KeepA.trans ?_ (by assumption)), Se.fn Ses.nil (Ses.cons (Se.ptr (r := ⟨[.c (.int .i64 v)], 3, 0, 0, false⟩) (gp_eq rfl) (Nat.le_refl _) rfl rfl (Ses.firm (FirmR.cons (Firm.c _) FirmR.nil))) Ses.nil)⟩
theorem classOf_ok (v : Int) : PC (XK k) 61 [.c (.int .i64 v)] (.c (.int .i64 (classOf v))) := by
  refine PC_of fun s => ?_
  refine f61_in (hk _ (by decide)) ?_
  (try (simp -implicitDefEqProofs (maxSteps := 2000000) (disch := first | omega | (simp only [vz_push, vz_set, drop_size]; first | done | omega)) only [push_cast, seval, f61N0, f61N1, f61N2, f61N3, f61N4])) <;> (repeat' ((first | apply ga_dec | apply ga_ndec | apply cd_dec | apply cd_ndec | apply gd_dec | apply gd_ndec | apply ga_split | apply cd_split | apply gd_split) <;> intro hc <;> try (simp -implicitDefEqProofs (maxSteps := 2000000) (disch := first | omega | (simp only [vz_push, vz_set, drop_size]; first | done | omega)) only [push_cast, seval, f61N0, f61N1, f61N2, f61N3, f61N4, hc])))
  refine VC_pure (right_ok hk _) ?_
  (try (simp -implicitDefEqProofs (maxSteps := 2000000) (disch := first | omega | (simp only [vz_push, vz_set, drop_size]; first | done | omega)) only [push_cast, seval, f61N0, f61N1, f61N2, f61N3, f61N4])) <;> (repeat' ((first | apply ga_dec | apply ga_ndec | apply cd_dec | apply cd_ndec | apply gd_dec | apply gd_ndec | apply ga_split | apply cd_split | apply gd_split) <;> intro hc <;> try (simp -implicitDefEqProofs (maxSteps := 2000000) (disch := first | omega | (simp only [vz_push, vz_set, drop_size]; first | done | omega)) only [push_cast, seval, f61N0, f61N1, f61N2, f61N3, f61N4, hc])))
  · exact out_int (by (repeat first | assumption | exact KeepA.refl _ | apply KeepA.push | refine KeepA.set ?_ (by first | omega | (simp only [vz_push, vz_set, drop_size]; omega) | (have h9 := KeepA.size_le (by assumption); (try simp only [vz_push, vz_set, drop_size] at *); omega)) _ | refine KeepA.drop ?_ (by first | omega | (simp only [vz_push, vz_set, drop_size]; omega) | (have h9 := KeepA.size_le (by assumption); (try simp only [vz_push, vz_set, drop_size] at *); omega)) | refine KeepA.trans ?_ (by assumption))) (by simp_all [classOf])
  · exact out_int (by (repeat first | assumption | exact KeepA.refl _ | apply KeepA.push | refine KeepA.set ?_ (by first | omega | (simp only [vz_push, vz_set, drop_size]; omega) | (have h9 := KeepA.size_le (by assumption); (try simp only [vz_push, vz_set, drop_size] at *); omega)) _ | refine KeepA.drop ?_ (by first | omega | (simp only [vz_push, vz_set, drop_size]; omega) | (have h9 := KeepA.size_le (by assumption); (try simp only [vz_push, vz_set, drop_size] at *); omega)) | refine KeepA.trans ?_ (by assumption))) (by simp_all [classOf])
  refine VC_pure (finder_ok hk _) ?_
  (try (simp -implicitDefEqProofs (maxSteps := 2000000) (disch := first | omega | (simp only [vz_push, vz_set, drop_size]; first | done | omega)) only [push_cast, seval, f61N0, f61N1, f61N2, f61N3, f61N4])) <;> (repeat' ((first | apply ga_dec | apply ga_ndec | apply cd_dec | apply cd_ndec | apply gd_dec | apply gd_ndec | apply ga_split | apply cd_split | apply gd_split) <;> intro hc <;> try (simp -implicitDefEqProofs (maxSteps := 2000000) (disch := first | omega | (simp only [vz_push, vz_set, drop_size]; first | done | omega)) only [push_cast, seval, f61N0, f61N1, f61N2, f61N3, f61N4, hc])))
  refine VC_pure (finder1_ok hk v 90 _ (of1_ok hk)) ?_
  (try (simp -implicitDefEqProofs (maxSteps := 2000000) (disch := first | omega | (simp only [vz_push, vz_set, drop_size]; first | done | omega)) only [push_cast, seval, f61N0, f61N1, f61N2, f61N3, f61N4])) <;> (repeat' ((first | apply ga_dec | apply ga_ndec | apply cd_dec | apply cd_ndec | apply gd_dec | apply gd_ndec | apply ga_split | apply cd_split | apply gd_split) <;> intro hc <;> try (simp -implicitDefEqProofs (maxSteps := 2000000) (disch := first | omega | (simp only [vz_push, vz_set, drop_size]; first | done | omega)) only [push_cast, seval, f61N0, f61N1, f61N2, f61N3, f61N4, hc])))
  · exact out_int (by (repeat first | assumption | exact KeepA.refl _ | apply KeepA.push | refine KeepA.set ?_ (by first | omega | (simp only [vz_push, vz_set, drop_size]; omega) | (have h9 := KeepA.size_le (by assumption); (try simp only [vz_push, vz_set, drop_size] at *); omega)) _ | refine KeepA.drop ?_ (by first | omega | (simp only [vz_push, vz_set, drop_size]; omega) | (have h9 := KeepA.size_le (by assumption); (try simp only [vz_push, vz_set, drop_size] at *); omega)) | refine KeepA.trans ?_ (by assumption))) (by simp_all [classOf]; intro; omega)
  refine VC_pure (alike_ok hk v) ?_
  cases hx : firstL v LT with
  | some x =>
    (try (simp -implicitDefEqProofs (maxSteps := 2000000) (disch := first | omega | (simp only [vz_push, vz_set, drop_size]; first | done | omega)) only [push_cast, seval, f61N0, f61N1, f61N2, f61N3, f61N4, alikeR])) <;> (repeat' ((first | apply ga_dec | apply ga_ndec | apply cd_dec | apply cd_ndec | apply gd_dec | apply gd_ndec | apply ga_split | apply cd_split | apply gd_split) <;> intro hc <;> try (simp -implicitDefEqProofs (maxSteps := 2000000) (disch := first | omega | (simp only [vz_push, vz_set, drop_size]; first | done | omega)) only [push_cast, seval, f61N0, f61N1, f61N2, f61N3, f61N4, hc, alikeR])))
    exact out_int (by (repeat first | assumption | exact KeepA.refl _ | apply KeepA.push | refine KeepA.set ?_ (by first | omega | (simp only [vz_push, vz_set, drop_size]; omega) | (have h9 := KeepA.size_le (by assumption); (try simp only [vz_push, vz_set, drop_size] at *); omega)) _ | refine KeepA.drop ?_ (by first | omega | (simp only [vz_push, vz_set, drop_size]; omega) | (have h9 := KeepA.size_le (by assumption); (try simp only [vz_push, vz_set, drop_size] at *); omega)) | refine KeepA.trans ?_ (by assumption))) (by simp_all [classOf])
  | none =>
    (try (simp -implicitDefEqProofs (maxSteps := 2000000) (disch := first | omega | (simp only [vz_push, vz_set, drop_size]; first | done | omega)) only [push_cast, seval, f61N0, f61N1, f61N2, f61N3, f61N4, alikeR])) <;> (repeat' ((first | apply ga_dec | apply ga_ndec | apply cd_dec | apply cd_ndec | apply gd_dec | apply gd_ndec | apply ga_split | apply cd_split | apply gd_split) <;> intro hc <;> try (simp -implicitDefEqProofs (maxSteps := 2000000) (disch := first | omega | (simp only [vz_push, vz_set, drop_size]; first | done | omega)) only [push_cast, seval, f61N0, f61N1, f61N2, f61N3, f61N4, hc, alikeR])))
    refine VC_pure (finder1_ok hk v 92 _ (of2_ok hk)) ?_
    (try (simp -implicitDefEqProofs (maxSteps := 2000000) (disch := first | omega | (simp only [vz_push, vz_set, drop_size]; first | done | omega)) only [push_cast, seval, f61N0, f61N1, f61N2, f61N3, f61N4])) <;> (repeat' ((first | apply ga_dec | apply ga_ndec | apply cd_dec | apply cd_ndec | apply gd_dec | apply gd_ndec | apply ga_split | apply cd_split | apply gd_split) <;> intro hc <;> try (simp -implicitDefEqProofs (maxSteps := 2000000) (disch := first | omega | (simp only [vz_push, vz_set, drop_size]; first | done | omega)) only [push_cast, seval, f61N0, f61N1, f61N2, f61N3, f61N4, hc])))
    · exact out_int (by (repeat first | assumption | exact KeepA.refl _ | apply KeepA.push | refine KeepA.set ?_ (by first | omega | (simp only [vz_push, vz_set, drop_size]; omega) | (have h9 := KeepA.size_le (by assumption); (try simp only [vz_push, vz_set, drop_size] at *); omega)) _ | refine KeepA.drop ?_ (by first | omega | (simp only [vz_push, vz_set, drop_size]; omega) | (have h9 := KeepA.size_le (by assumption); (try simp only [vz_push, vz_set, drop_size] at *); omega)) | refine KeepA.trans ?_ (by assumption))) (by simp_all [classOf]; omega)
    · exact out_int (by (repeat first | assumption | exact KeepA.refl _ | apply KeepA.push | refine KeepA.set ?_ (by first | omega | (simp only [vz_push, vz_set, drop_size]; omega) | (have h9 := KeepA.size_le (by assumption); (try simp only [vz_push, vz_set, drop_size] at *); omega)) _ | refine KeepA.drop ?_ (by first | omega | (simp only [vz_push, vz_set, drop_size]; omega) | (have h9 := KeepA.size_le (by assumption); (try simp only [vz_push, vz_set, drop_size] at *); omega)) | refine KeepA.trans ?_ (by assumption))) (by simp_all [classOf])
end
end Go.Proofs.YtpckldhojfjdmaaDoor.Ab
/- Classes of values, by the reference; kinds of values. -/
namespace Go.Proofs.YtpckldhojfjdmaaDoor.Ab
open Go.Proofs
set_option maxRecDepth 100000
set_option maxHeartbeats 2000000
set_option linter.unusedSimpArgs false
set_option linter.unusedVariables false
set_option linter.unnecessarySimpa false
/-- Lent: a row of whole numbers, read as a list. -/
theorem VC_ints {X : Prg} {s : VS} {f b n e cap : Nat} {v : AV} {l : List Int} {r : AV} {K : AV → VS → Prop} (h : PC X f [v, LI l] r) (hv : Firm v) (hr : Rigid r) (hg : s.get b = some (.own ⟨l.map fun x => .c (.int .i64 x), e, 0, 0, false⟩)) (hn : l.length = n) (hc : n ≤ cap / 2) (hK : K r s) : VC X f [v, .sl ⟨b, 0, none⟩ n cap] s K := by
  refine VC_lent h (Ses.cons (Se.firm hv) (Ses.cons (Se.sl hg trivial rfl ?_ hc (by rw [List.length_map]; exact hn) (len_eI .i64 l) ?_) Ses.nil)) hr hK
  · show 0 + n * 1 ≤ (l.map _).length
    rw [List.length_map]; omega
  · show Ses X All Non s (((l.map fun x => AV.c (.int .i64 x)).drop 0).take (n * 1)) _
    rw [flat_eI, List.drop_zero, List.take_of_length_le (by rw [List.length_map]; omega)]
    exact Ses.firm (FirmR.map fun _ => Firm.c _)
noncomputable def O1 : List Int := intsAt .i64 f67c28 1
noncomputable def O2 : List Int := intsAt .i64 f67c36 1
noncomputable def O3 : List Int := intsAt .i64 f67c44 1
noncomputable def O4 : List Int := intsAt .i64 f67c52 1
noncomputable def O5 : List Int := intsAt .i64 f67c60 1
noncomputable def oddOf (v : Int) : Int :=
  if v ≤ 31 then 4 else if v = 127 then 5 else if 128 ≤ v ∧ v ≤ 159 then 6
  else if withinL v O1 = true then 10 else if withinL v O2 = true then 8 else if withinL v O3 = true then 7 else if withinL v O4 = true then 9 else if withinL v O5 = true then 11 else 0
noncomputable def SL : List Int := intsAt .i64 f68c3 0
noncomputable def SS : ByteArray := strAt f68c5 0
noncomputable def skelL (v : Int) : List Int → List UInt8 → Int
  | a :: l, b :: t => if a = v then b.toNat else skelL v l t
  | _, _ => v
noncomputable def refSkel (v : Int) : Int := skelL v SL SS.data.toList
theorem sl_len : SL.length = 51 := by kernel_rfl
theorem ss_len : SS.data.toList.length = 51 := by kernel_rfl
noncomputable def WL : List Int := intsAt .i64 f29c38 1
noncomputable def refOf (v : Int) : Int :=
  if right v = true then
    if 1114111 < v then 12 else if 0 < oddOf v then oddOf v else if refSkel v ≠ v then 3 else if withinL v WL = true then 2 else 1
  else 0
section
variable {k : Nat → List Value → Option Value} (hk : ∀ f, f ≠ 95 → Open k f)
include hk
theorem within_ok (v : Int) (l : List Int) (hl : l.length < 1000) : PC (XK k) 69 [.c (.int .i64 v), LI l] (.c (.bool (withinL v l))) := by
  refine PC_of fun s => ?_
  refine f69_in (hk _ (by decide)) ?_
  (try (simp -implicitDefEqProofs (maxSteps := 2000000) (disch := first | omega | (simp only [vz_push, vz_set, drop_size]; first | done | omega)) only [push_cast, seval, f69N0, f69N1, f69N2])) <;> (repeat' ((first | apply ga_dec | apply ga_ndec | apply cd_dec | apply cd_ndec | apply gd_dec | apply gd_ndec | apply ga_split | apply cd_split | apply gd_split) <;> intro hc <;> try (simp -implicitDefEqProofs (maxSteps := 2000000) (disch := first | omega | (simp only [vz_push, vz_set, drop_size]; first | done | omega)) only [push_cast, seval, f69N0, f69N1, f69N2, hc])))
  refine VW_iter (fun m ρ s' => ∃ i : Nat, m = l.length + 1 - i ∧ i ≤ l.length + 1 ∧ ρ.get 5 = .c (.int .i64 i) ∧ ρ.get 0 = .c (.int .i64 v) ∧ ρ.get 1 = LI l ∧ s' = s ∧ withinL v l = withinL v (l.drop i)) (l.length + 1) ⟨0, rfl, by omega, by (((try simp -implicitDefEqProofs only [eA_tmp, eA_const, AEnv.get_set, ofA_get, List.getD_cons_zero, List.getD_cons_succ, ↓reduceIte, reduceCtorEq, Nat.reduceEqDiff]); try (first | (with_reducible assumption) | (with_reducible rfl) | (congr 2 <;> omega) | rfl))), by (((try simp -implicitDefEqProofs only [eA_tmp, eA_const, AEnv.get_set, ofA_get, List.getD_cons_zero, List.getD_cons_succ, ↓reduceIte, reduceCtorEq, Nat.reduceEqDiff]); try (first | (with_reducible assumption) | (with_reducible rfl) | (congr 2 <;> omega) | rfl))), by (((try simp -implicitDefEqProofs only [eA_tmp, eA_const, AEnv.get_set, ofA_get, List.getD_cons_zero, List.getD_cons_succ, ↓reduceIte, reduceCtorEq, Nat.reduceEqDiff]); try (first | (with_reducible assumption) | (with_reducible rfl) | (congr 2 <;> omega) | rfl))), rfl, rfl⟩ ?_
  rintro m ρ s' ⟨i, rfl, hi, g5, g0, g1, rfl, hf⟩
  simp -implicitDefEqProofs (maxSteps := 2000000) (disch := first | omega | (simp only [vz_push, vz_set, drop_size]; first | done | omega)) only [push_cast, seval, f69N0, f69N1, f69N2, g5, g1]
  refine cd_dec (fun hc => ?_) (fun hc => ?_)
  · have hx := List.getElem?_eq_getElem (show i < l.length by omega)
    have hy := List.getElem?_eq_getElem (show i + 1 < l.length by omega)
    generalize l[i] = x at hx
    generalize l[i + 1] = y at hy
    rw [drop_at hx, drop_at hy] at hf
    simp only [withinL] at hf
    (try (simp -implicitDefEqProofs (maxSteps := 2000000) (disch := first | omega | (simp only [vz_push, vz_set, drop_size]; first | done | omega)) only [push_cast, seval, f69N0, f69N1, f69N2, g5, g0, g1, hx, hy, eI])) <;> (repeat' ((first | apply ga_dec | apply ga_ndec | apply cd_dec | apply cd_ndec | apply gd_dec | apply gd_ndec | apply ga_split | apply cd_split | apply gd_split) <;> intro hc <;> try (simp -implicitDefEqProofs (maxSteps := 2000000) (disch := first | omega | (simp only [vz_push, vz_set, drop_size]; first | done | omega)) only [push_cast, seval, f69N0, f69N1, f69N2, hc, g5, g0, g1, hx, hy, eI])))
    · exact out_bool (by (repeat first | assumption | exact KeepA.refl _ | apply KeepA.push | refine KeepA.set ?_ (by first | omega | (simp only [vz_push, vz_set, drop_size]; omega) | (have h9 := KeepA.size_le (by assumption); (try simp only [vz_push, vz_set, drop_size] at *); omega)) _ | refine KeepA.drop ?_ (by first | omega | (simp only [vz_push, vz_set, drop_size]; omega) | (have h9 := KeepA.size_le (by assumption); (try simp only [vz_push, vz_set, drop_size] at *); omega)) | refine KeepA.trans ?_ (by assumption))) (by simp only [hf, *, decide_true, Bool.and_self, Bool.true_or])
    all_goals exact ⟨l.length + 1 - (i + 2), by omega, i + 2, rfl, by omega, by congr 2, by simpa [*] using hf⟩
  · simp -implicitDefEqProofs (maxSteps := 2000000) (disch := first | omega | (simp only [vz_push, vz_set, drop_size]; first | done | omega)) only [push_cast, seval, f69N0, f69N1, f69N2]
    refine out_bool (by (repeat first | assumption | exact KeepA.refl _ | apply KeepA.push | refine KeepA.set ?_ (by first | omega | (simp only [vz_push, vz_set, drop_size]; omega) | (have h9 := KeepA.size_le (by assumption); (try simp only [vz_push, vz_set, drop_size] at *); omega)) _ | refine KeepA.drop ?_ (by first | omega | (simp only [vz_push, vz_set, drop_size]; omega) | (have h9 := KeepA.size_le (by assumption); (try simp only [vz_push, vz_set, drop_size] at *); omega)) | refine KeepA.trans ?_ (by assumption))) ?_
    rw [hf]
    rcases Nat.lt_or_ge i l.length with h1 | h1
    · have hx := List.getElem?_eq_getElem h1
      rw [drop_at hx, List.drop_eq_nil_of_le (by omega)]; rfl
    · rw [List.drop_eq_nil_of_le h1]; rfl
theorem odd_ok (v : Int) : PC (XK k) 67 [.c (.int .i64 v)] (.c (.int .i64 (oddOf v))) := by
  refine PC_of fun s => ?_
  refine f67_in (hk _ (by decide)) ?_
  have tail : ∀ ρ : AEnv, ρ.get 0 = .c (.int .i64 v) → ¬ v ≤ 31 → ¬ v = 127 → ¬ (128 ≤ v ∧ v ≤ 159) → vwp (XK k) f67c26 ρ s (rtA (XK k) [.tmp 2] (outP (XK k) s (.c (.int .i64 (oddOf v))))) := by
    intro ρ g0 h1 h2 h3
    have e : ∀ x, (if v ≤ 31 then 4 else if v = 127 then 5 else if 128 ≤ v ∧ v ≤ 159 then 6 else x) = (x : Int) := fun x => by simp [h1, h2, h3]
    unfold oddOf
    rw [e]
    simp -implicitDefEqProofs (maxSteps := 2000000) (disch := first | omega | (simp only [vz_push, vz_set, drop_size]; first | done | omega)) only [push_cast, seval, f67N0, f67N1, f67N2, f67N3, f67N4, f67N5, g0]
    rw [bsP_ints und23 ty3 (l := O1) (by kernel_rfl) (by kernel_rfl) rfl]
    simp -implicitDefEqProofs (maxSteps := 2000000) (disch := first | omega | (simp only [vz_push, vz_set, drop_size]; first | done | omega)) only [push_cast, seval, f67N0, f67N1, f67N2, f67N3, f67N4, f67N5, g0]
    refine VC_ints (within_ok hk v O1 (by show 14 < 1000; omega)) (Firm.c _) (Rigid.c _) (gp_eq rfl) (by kernel_rfl) (by rw [capX_half]; omega) ?_
    (try (simp -implicitDefEqProofs (maxSteps := 2000000) (disch := first | omega | (simp only [vz_push, vz_set, drop_size]; first | done | omega)) only [push_cast, seval, f67N0, f67N1, f67N2, f67N3, f67N4, f67N5, g0])) <;> (repeat' ((first | apply ga_dec | apply ga_ndec | apply cd_dec | apply cd_ndec | apply gd_dec | apply gd_ndec | apply ga_split | apply cd_split | apply gd_split) <;> intro hc <;> try (simp -implicitDefEqProofs (maxSteps := 2000000) (disch := first | omega | (simp only [vz_push, vz_set, drop_size]; first | done | omega)) only [push_cast, seval, f67N0, f67N1, f67N2, f67N3, f67N4, f67N5, hc, g0])))
    · exact out_int (by (repeat first | assumption | exact KeepA.refl _ | apply KeepA.push | refine KeepA.set ?_ (by first | omega | (simp only [vz_push, vz_set, drop_size]; omega) | (have h9 := KeepA.size_le (by assumption); (try simp only [vz_push, vz_set, drop_size] at *); omega)) _ | refine KeepA.drop ?_ (by first | omega | (simp only [vz_push, vz_set, drop_size]; omega) | (have h9 := KeepA.size_le (by assumption); (try simp only [vz_push, vz_set, drop_size] at *); omega)) | refine KeepA.trans ?_ (by assumption))) (by simp [*])
    rw [bsP_ints und23 ty3 (l := O2) (by kernel_rfl) (by kernel_rfl) rfl]
    simp -implicitDefEqProofs (maxSteps := 2000000) (disch := first | omega | (simp only [vz_push, vz_set, drop_size]; first | done | omega)) only [push_cast, seval, f67N0, f67N1, f67N2, f67N3, f67N4, f67N5, g0]
    refine VC_ints (within_ok hk v O2 (by show 12 < 1000; omega)) (Firm.c _) (Rigid.c _) (gp_eq rfl) (by kernel_rfl) (by rw [capX_half]; omega) ?_
    (try (simp -implicitDefEqProofs (maxSteps := 2000000) (disch := first | omega | (simp only [vz_push, vz_set, drop_size]; first | done | omega)) only [push_cast, seval, f67N0, f67N1, f67N2, f67N3, f67N4, f67N5, g0])) <;> (repeat' ((first | apply ga_dec | apply ga_ndec | apply cd_dec | apply cd_ndec | apply gd_dec | apply gd_ndec | apply ga_split | apply cd_split | apply gd_split) <;> intro hc <;> try (simp -implicitDefEqProofs (maxSteps := 2000000) (disch := first | omega | (simp only [vz_push, vz_set, drop_size]; first | done | omega)) only [push_cast, seval, f67N0, f67N1, f67N2, f67N3, f67N4, f67N5, hc, g0])))
    · exact out_int (by (repeat first | assumption | exact KeepA.refl _ | apply KeepA.push | refine KeepA.set ?_ (by first | omega | (simp only [vz_push, vz_set, drop_size]; omega) | (have h9 := KeepA.size_le (by assumption); (try simp only [vz_push, vz_set, drop_size] at *); omega)) _ | refine KeepA.drop ?_ (by first | omega | (simp only [vz_push, vz_set, drop_size]; omega) | (have h9 := KeepA.size_le (by assumption); (try simp only [vz_push, vz_set, drop_size] at *); omega)) | refine KeepA.trans ?_ (by assumption))) (by simp [*])
    rw [bsP_ints und23 ty3 (l := O3) (by kernel_rfl) (by kernel_rfl) rfl]
    simp -implicitDefEqProofs (maxSteps := 2000000) (disch := first | omega | (simp only [vz_push, vz_set, drop_size]; first | done | omega)) only [push_cast, seval, f67N0, f67N1, f67N2, f67N3, f67N4, f67N5, g0]
    refine VC_ints (within_ok hk v O3 (by show 8 < 1000; omega)) (Firm.c _) (Rigid.c _) (gp_eq rfl) (by kernel_rfl) (by rw [capX_half]; omega) ?_
    (try (simp -implicitDefEqProofs (maxSteps := 2000000) (disch := first | omega | (simp only [vz_push, vz_set, drop_size]; first | done | omega)) only [push_cast, seval, f67N0, f67N1, f67N2, f67N3, f67N4, f67N5, g0])) <;> (repeat' ((first | apply ga_dec | apply ga_ndec | apply cd_dec | apply cd_ndec | apply gd_dec | apply gd_ndec | apply ga_split | apply cd_split | apply gd_split) <;> intro hc <;> try (simp -implicitDefEqProofs (maxSteps := 2000000) (disch := first | omega | (simp only [vz_push, vz_set, drop_size]; first | done | omega)) only [push_cast, seval, f67N0, f67N1, f67N2, f67N3, f67N4, f67N5, hc, g0])))
    · exact out_int (by (repeat first | assumption | exact KeepA.refl _ | apply KeepA.push | refine KeepA.set ?_ (by first | omega | (simp only [vz_push, vz_set, drop_size]; omega) | (have h9 := KeepA.size_le (by assumption); (try simp only [vz_push, vz_set, drop_size] at *); omega)) _ | refine KeepA.drop ?_ (by first | omega | (simp only [vz_push, vz_set, drop_size]; omega) | (have h9 := KeepA.size_le (by assumption); (try simp only [vz_push, vz_set, drop_size] at *); omega)) | refine KeepA.trans ?_ (by assumption))) (by simp [*])
    rw [bsP_ints und23 ty3 (l := O4) (by kernel_rfl) (by kernel_rfl) rfl]
    simp -implicitDefEqProofs (maxSteps := 2000000) (disch := first | omega | (simp only [vz_push, vz_set, drop_size]; first | done | omega)) only [push_cast, seval, f67N0, f67N1, f67N2, f67N3, f67N4, f67N5, g0]
    refine VC_ints (within_ok hk v O4 (by show 26 < 1000; omega)) (Firm.c _) (Rigid.c _) (gp_eq rfl) (by kernel_rfl) (by rw [capX_half]; omega) ?_
    (try (simp -implicitDefEqProofs (maxSteps := 2000000) (disch := first | omega | (simp only [vz_push, vz_set, drop_size]; first | done | omega)) only [push_cast, seval, f67N0, f67N1, f67N2, f67N3, f67N4, f67N5, g0])) <;> (repeat' ((first | apply ga_dec | apply ga_ndec | apply cd_dec | apply cd_ndec | apply gd_dec | apply gd_ndec | apply ga_split | apply cd_split | apply gd_split) <;> intro hc <;> try (simp -implicitDefEqProofs (maxSteps := 2000000) (disch := first | omega | (simp only [vz_push, vz_set, drop_size]; first | done | omega)) only [push_cast, seval, f67N0, f67N1, f67N2, f67N3, f67N4, f67N5, hc, g0])))
    · exact out_int (by (repeat first | assumption | exact KeepA.refl _ | apply KeepA.push | refine KeepA.set ?_ (by first | omega | (simp only [vz_push, vz_set, drop_size]; omega) | (have h9 := KeepA.size_le (by assumption); (try simp only [vz_push, vz_set, drop_size] at *); omega)) _ | refine KeepA.drop ?_ (by first | omega | (simp only [vz_push, vz_set, drop_size]; omega) | (have h9 := KeepA.size_le (by assumption); (try simp only [vz_push, vz_set, drop_size] at *); omega)) | refine KeepA.trans ?_ (by assumption))) (by simp [*])
    rw [bsP_ints und23 ty3 (l := O5) (by kernel_rfl) (by kernel_rfl) rfl]
    simp -implicitDefEqProofs (maxSteps := 2000000) (disch := first | omega | (simp only [vz_push, vz_set, drop_size]; first | done | omega)) only [push_cast, seval, f67N0, f67N1, f67N2, f67N3, f67N4, f67N5, g0]
    refine VC_ints (within_ok hk v O5 (by show 12 < 1000; omega)) (Firm.c _) (Rigid.c _) (gp_eq rfl) (by kernel_rfl) (by rw [capX_half]; omega) ?_
    (try (simp -implicitDefEqProofs (maxSteps := 2000000) (disch := first | omega | (simp only [vz_push, vz_set, drop_size]; first | done | omega)) only [push_cast, seval, f67N0, f67N1, f67N2, f67N3, f67N4, f67N5, g0])) <;> (repeat' ((first | apply ga_dec | apply ga_ndec | apply cd_dec | apply cd_ndec | apply gd_dec | apply gd_ndec | apply ga_split | apply cd_split | apply gd_split) <;> intro hc <;> try (simp -implicitDefEqProofs (maxSteps := 2000000) (disch := first | omega | (simp only [vz_push, vz_set, drop_size]; first | done | omega)) only [push_cast, seval, f67N0, f67N1, f67N2, f67N3, f67N4, f67N5, hc, g0])))
    all_goals exact out_int (by (repeat first | assumption | exact KeepA.refl _ | apply KeepA.push | refine KeepA.set ?_ (by first | omega | (simp only [vz_push, vz_set, drop_size]; omega) | (have h9 := KeepA.size_le (by assumption); (try simp only [vz_push, vz_set, drop_size] at *); omega)) _ | refine KeepA.drop ?_ (by first | omega | (simp only [vz_push, vz_set, drop_size]; omega) | (have h9 := KeepA.size_le (by assumption); (try simp only [vz_push, vz_set, drop_size] at *); omega)) | refine KeepA.trans ?_ (by assumption))) (by simp [*])
  (try (simp -implicitDefEqProofs (maxSteps := 2000000) (disch := first | omega | (simp only [vz_push, vz_set, drop_size]; first | done | omega)) only [push_cast, seval, (@vS (XK k) f67c1 f67c2 f67c0 rfl), (@vO (XK k) f67c1 _ _ _ rfl (by kernel_rfl)), (@vS (XK k) f67c3 f67c10 f67c2 rfl), (@vS (XK k) f67c4 f67c5 f67c3 rfl), (@vO (XK k) f67c4 _ _ _ rfl (by kernel_rfl)), (@vC (XK k) f67c6 f67c9 f67c5 (.tmp 4) rfl), (@vS (XK k) f67c7 f67c8 f67c6 rfl), (@vO (XK k) f67c7 _ _ _ rfl (by kernel_rfl)), (@vR (XK k) f67c8 rfl), (@vK (XK k) f67c9 rfl), (@vS (XK k) f67c11 f67c18 f67c10 rfl), (@vS (XK k) f67c12 f67c13 f67c11 rfl), (@vO (XK k) f67c12 _ _ _ rfl (by kernel_rfl)), (@vC (XK k) f67c14 f67c17 f67c13 (.tmp 6) rfl), (@vS (XK k) f67c15 f67c16 f67c14 rfl), (@vO (XK k) f67c15 _ _ _ rfl (by kernel_rfl)), (@vR (XK k) f67c16 rfl), (@vK (XK k) f67c17 rfl), (@vS (XK k) f67c19 f67c26 f67c18 rfl), (@vS (XK k) f67c20 f67c21 f67c19 rfl), (@vO (XK k) f67c20 _ _ _ rfl (by kernel_rfl)), (@vC (XK k) f67c22 f67c25 f67c21 (.tmp 12) rfl), (@vS (XK k) f67c23 f67c24 f67c22 rfl), (@vO (XK k) f67c23 _ _ _ rfl (by kernel_rfl)), (@vR (XK k) f67c24 rfl), (@vK (XK k) f67c25 rfl), (@vS (XK k) f67c28 f67c29 f67c27 rfl), (@vO (XK k) f67c28 _ _ _ rfl (by kernel_rfl)), (@vC (XK k) f67c30 f67c33 f67c29 (.tmp 15) rfl), (@vS (XK k) f67c31 f67c32 f67c30 rfl), (@vO (XK k) f67c31 _ _ _ rfl (by kernel_rfl)), (@vR (XK k) f67c32 rfl), (@vK (XK k) f67c33 rfl), (@vS (XK k) f67c35 f67c42 f67c34 rfl), (@vS (XK k) f67c36 f67c37 f67c35 rfl), (@vO (XK k) f67c36 _ _ _ rfl (by kernel_rfl)), (@vC (XK k) f67c38 f67c41 f67c37 (.tmp 18) rfl), (@vS (XK k) f67c39 f67c40 f67c38 rfl), (@vO (XK k) f67c39 _ _ _ rfl (by kernel_rfl)), (@vR (XK k) f67c40 rfl), (@vK (XK k) f67c41 rfl), (@vS (XK k) f67c43 f67c50 f67c42 rfl), (@vS (XK k) f67c44 f67c45 f67c43 rfl), (@vO (XK k) f67c44 _ _ _ rfl (by kernel_rfl)), (@vC (XK k) f67c46 f67c49 f67c45 (.tmp 21) rfl), (@vS (XK k) f67c47 f67c48 f67c46 rfl), (@vO (XK k) f67c47 _ _ _ rfl (by kernel_rfl)), (@vR (XK k) f67c48 rfl), (@vK (XK k) f67c49 rfl), (@vS (XK k) f67c51 f67c58 f67c50 rfl), (@vS (XK k) f67c52 f67c53 f67c51 rfl), (@vO (XK k) f67c52 _ _ _ rfl (by kernel_rfl)), (@vC (XK k) f67c54 f67c57 f67c53 (.tmp 24) rfl), (@vS (XK k) f67c55 f67c56 f67c54 rfl), (@vO (XK k) f67c55 _ _ _ rfl (by kernel_rfl)), (@vR (XK k) f67c56 rfl), (@vK (XK k) f67c57 rfl), (@vS (XK k) f67c59 f67c66 f67c58 rfl), (@vS (XK k) f67c60 f67c61 f67c59 rfl), (@vO (XK k) f67c60 _ _ _ rfl (by kernel_rfl)), (@vC (XK k) f67c62 f67c65 f67c61 (.tmp 27) rfl), (@vS (XK k) f67c63 f67c64 f67c62 rfl), (@vO (XK k) f67c63 _ _ _ rfl (by kernel_rfl)), (@vR (XK k) f67c64 rfl), (@vK (XK k) f67c65 rfl), (@vS (XK k) f67c67 f67c68 f67c66 rfl), (@vO (XK k) f67c67 _ _ _ rfl (by kernel_rfl)), (@vR (XK k) f67c68 rfl)])) <;> (repeat' ((first | apply ga_dec | apply ga_ndec | apply cd_dec | apply cd_ndec | apply gd_dec | apply gd_ndec | apply ga_split | apply cd_split | apply gd_split) <;> intro hc <;> try (simp -implicitDefEqProofs (maxSteps := 2000000) (disch := first | omega | (simp only [vz_push, vz_set, drop_size]; first | done | omega)) only [push_cast, seval, (@vS (XK k) f67c1 f67c2 f67c0 rfl), (@vO (XK k) f67c1 _ _ _ rfl (by kernel_rfl)), (@vS (XK k) f67c3 f67c10 f67c2 rfl), (@vS (XK k) f67c4 f67c5 f67c3 rfl), (@vO (XK k) f67c4 _ _ _ rfl (by kernel_rfl)), (@vC (XK k) f67c6 f67c9 f67c5 (.tmp 4) rfl), (@vS (XK k) f67c7 f67c8 f67c6 rfl), (@vO (XK k) f67c7 _ _ _ rfl (by kernel_rfl)), (@vR (XK k) f67c8 rfl), (@vK (XK k) f67c9 rfl), (@vS (XK k) f67c11 f67c18 f67c10 rfl), (@vS (XK k) f67c12 f67c13 f67c11 rfl), (@vO (XK k) f67c12 _ _ _ rfl (by kernel_rfl)), (@vC (XK k) f67c14 f67c17 f67c13 (.tmp 6) rfl), (@vS (XK k) f67c15 f67c16 f67c14 rfl), (@vO (XK k) f67c15 _ _ _ rfl (by kernel_rfl)), (@vR (XK k) f67c16 rfl), (@vK (XK k) f67c17 rfl), (@vS (XK k) f67c19 f67c26 f67c18 rfl), (@vS (XK k) f67c20 f67c21 f67c19 rfl), (@vO (XK k) f67c20 _ _ _ rfl (by kernel_rfl)), (@vC (XK k) f67c22 f67c25 f67c21 (.tmp 12) rfl), (@vS (XK k) f67c23 f67c24 f67c22 rfl), (@vO (XK k) f67c23 _ _ _ rfl (by kernel_rfl)), (@vR (XK k) f67c24 rfl), (@vK (XK k) f67c25 rfl), (@vS (XK k) f67c28 f67c29 f67c27 rfl), (@vO (XK k) f67c28 _ _ _ rfl (by kernel_rfl)), (@vC (XK k) f67c30 f67c33 f67c29 (.tmp 15) rfl), (@vS (XK k) f67c31 f67c32 f67c30 rfl), (@vO (XK k) f67c31 _ _ _ rfl (by kernel_rfl)), (@vR (XK k) f67c32 rfl), (@vK (XK k) f67c33 rfl), (@vS (XK k) f67c35 f67c42 f67c34 rfl), (@vS (XK k) f67c36 f67c37 f67c35 rfl), (@vO (XK k) f67c36 _ _ _ rfl (by kernel_rfl)), (@vC (XK k) f67c38 f67c41 f67c37 (.tmp 18) rfl), (@vS (XK k) f67c39 f67c40 f67c38 rfl), (@vO (XK k) f67c39 _ _ _ rfl (by kernel_rfl)), (@vR (XK k) f67c40 rfl), (@vK (XK k) f67c41 rfl), (@vS (XK k) f67c43 f67c50 f67c42 rfl), (@vS (XK k) f67c44 f67c45 f67c43 rfl), (@vO (XK k) f67c44 _ _ _ rfl (by kernel_rfl)), (@vC (XK k) f67c46 f67c49 f67c45 (.tmp 21) rfl), (@vS (XK k) f67c47 f67c48 f67c46 rfl), (@vO (XK k) f67c47 _ _ _ rfl (by kernel_rfl)), (@vR (XK k) f67c48 rfl), (@vK (XK k) f67c49 rfl), (@vS (XK k) f67c51 f67c58 f67c50 rfl), (@vS (XK k) f67c52 f67c53 f67c51 rfl), (@vO (XK k) f67c52 _ _ _ rfl (by kernel_rfl)), (@vC (XK k) f67c54 f67c57 f67c53 (.tmp 24) rfl), (@vS (XK k) f67c55 f67c56 f67c54 rfl), (@vO (XK k) f67c55 _ _ _ rfl (by kernel_rfl)), (@vR (XK k) f67c56 rfl), (@vK (XK k) f67c57 rfl), (@vS (XK k) f67c59 f67c66 f67c58 rfl), (@vS (XK k) f67c60 f67c61 f67c59 rfl), (@vO (XK k) f67c60 _ _ _ rfl (by kernel_rfl)), (@vC (XK k) f67c62 f67c65 f67c61 (.tmp 27) rfl), (@vS (XK k) f67c63 f67c64 f67c62 rfl), (@vO (XK k) f67c63 _ _ _ rfl (by kernel_rfl)), (@vR (XK k) f67c64 rfl), (@vK (XK k) f67c65 rfl), (@vS (XK k) f67c67 f67c68 f67c66 rfl), (@vO (XK k) f67c67 _ _ _ rfl (by kernel_rfl)), (@vR (XK k) f67c68 rfl), hc])))
  · exact out_int (by (repeat first | assumption | exact KeepA.refl _ | apply KeepA.push | refine KeepA.set ?_ (by first | omega | (simp only [vz_push, vz_set, drop_size]; omega) | (have h9 := KeepA.size_le (by assumption); (try simp only [vz_push, vz_set, drop_size] at *); omega)) _ | refine KeepA.drop ?_ (by first | omega | (simp only [vz_push, vz_set, drop_size]; omega) | (have h9 := KeepA.size_le (by assumption); (try simp only [vz_push, vz_set, drop_size] at *); omega)) | refine KeepA.trans ?_ (by assumption))) (by simp [oddOf, *])
  · exact out_int (by (repeat first | assumption | exact KeepA.refl _ | apply KeepA.push | refine KeepA.set ?_ (by first | omega | (simp only [vz_push, vz_set, drop_size]; omega) | (have h9 := KeepA.size_le (by assumption); (try simp only [vz_push, vz_set, drop_size] at *); omega)) _ | refine KeepA.drop ?_ (by first | omega | (simp only [vz_push, vz_set, drop_size]; omega) | (have h9 := KeepA.size_le (by assumption); (try simp only [vz_push, vz_set, drop_size] at *); omega)) | refine KeepA.trans ?_ (by assumption))) (by simp [oddOf, *])
  · have h1 : ¬ v ≤ 31 := by omega
    have h2 : ¬ v = 127 := by omega
    exact out_int (by (repeat first | assumption | exact KeepA.refl _ | apply KeepA.push | refine KeepA.set ?_ (by first | omega | (simp only [vz_push, vz_set, drop_size]; omega) | (have h9 := KeepA.size_le (by assumption); (try simp only [vz_push, vz_set, drop_size] at *); omega)) _ | refine KeepA.drop ?_ (by first | omega | (simp only [vz_push, vz_set, drop_size]; omega) | (have h9 := KeepA.size_le (by assumption); (try simp only [vz_push, vz_set, drop_size] at *); omega)) | refine KeepA.trans ?_ (by assumption))) (by simp [oddOf, *])
  all_goals exact tail _ (by (((try simp -implicitDefEqProofs only [eA_tmp, eA_const, AEnv.get_set, ofA_get, List.getD_cons_zero, List.getD_cons_succ, ↓reduceIte, reduceCtorEq, Nat.reduceEqDiff]); try (first | (with_reducible assumption) | (with_reducible rfl) | (congr 2 <;> omega) | rfl)))) (by omega) (by omega) (by omega)
theorem refSkel_ok (v : Int) : PC (XK k) 68 [.c (.int .i64 v)] (.c (.int .i64 (refSkel v))) := by
  refine PC_of fun s => ?_
  refine f68_in (hk _ (by decide)) ?_
  simp -implicitDefEqProofs (maxSteps := 2000000) (disch := first | omega | (simp only [vz_push, vz_set, drop_size]; first | done | omega)) only [push_cast, seval, f68N0, f68N1, f68N2]
  rw [bsP_ints und23 ty3 (l := SL) (by kernel_rfl) (by kernel_rfl) rfl]
  simp -implicitDefEqProofs (maxSteps := 2000000) (disch := first | omega | (simp only [vz_push, vz_set, drop_size]; first | done | omega)) only [push_cast, seval, f68N0, f68N1, f68N2]
  refine VW_iter (fun m ρ s' => ∃ i : Nat, m = 51 - i ∧ i ≤ 51 ∧ ρ.get 0 = .c (.int .i64 v) ∧ ρ.get 3 = .sl ⟨s.size, 0, none⟩ 51 (capX 51) ∧ ρ.get 4 = .c (.string SS) ∧ ρ.get 5 = .c (.int .i64 i) ∧ (s' = s.push (.own ⟨SL.map fun x => .c (.int .i64 x), 3, 0, 0, false⟩)) ∧ (refSkel v = skelL v (SL.drop i) (SS.data.toList.drop i))) (51) ⟨0, rfl, Nat.zero_le _, by (((try simp -implicitDefEqProofs only [eA_tmp, eA_const, AEnv.get_set, ofA_get, List.getD_cons_zero, List.getD_cons_succ, ↓reduceIte, reduceCtorEq, Nat.reduceEqDiff]); try (first | (with_reducible assumption) | (with_reducible rfl) | (congr 2 <;> omega) | rfl))), by (((try simp -implicitDefEqProofs only [eA_tmp, eA_const, AEnv.get_set, ofA_get, List.getD_cons_zero, List.getD_cons_succ, ↓reduceIte, reduceCtorEq, Nat.reduceEqDiff]); try (first | (with_reducible assumption) | (with_reducible rfl) | (congr 2 <;> omega) | rfl))), by (((try simp -implicitDefEqProofs only [eA_tmp, eA_const, AEnv.get_set, ofA_get, List.getD_cons_zero, List.getD_cons_succ, ↓reduceIte, reduceCtorEq, Nat.reduceEqDiff]); try (first | (with_reducible assumption) | (with_reducible rfl) | (congr 2 <;> omega) | rfl))), by (((try simp -implicitDefEqProofs only [eA_tmp, eA_const, AEnv.get_set, ofA_get, List.getD_cons_zero, List.getD_cons_succ, ↓reduceIte, reduceCtorEq, Nat.reduceEqDiff]); try (first | (with_reducible assumption) | (with_reducible rfl) | (congr 2 <;> omega) | rfl))), rfl, rfl⟩ ?_
  rintro m ρ s' ⟨i, rfl, hi, g0, g3, g4, g5, j1, j2⟩
  subst j1
  simp -implicitDefEqProofs (maxSteps := 2000000) (disch := first | omega | (simp only [vz_push, vz_set, drop_size]; first | done | omega)) only [push_cast, seval, f68N0, f68N1, f68N2, g0, g3, g4, g5]
  refine cd_dec (fun hc => ?_) (fun hc => ?_)
  · obtain ⟨x, hx⟩ : ∃ x, SL[i]? = some x := ⟨_, List.getElem?_eq_getElem (by rw [sl_len]; omega)⟩
    obtain ⟨y, hy⟩ : ∃ y, SS.data.toList[i]? = some y := ⟨_, List.getElem?_eq_getElem (by rw [ss_len]; omega)⟩
    have hsz : SS.size = 51 := by kernel_rfl
    rw [drop_at hx, drop_at hy] at j2
    have r0 : ((SL.map fun x => AV.c (.int .i64 x)).drop i).take 1 = [.c (.int .i64 x)] := one_cell (by rw [List.getElem?_map, hx]; rfl)
    have hlen : SL.length = 51 := sl_len
    simp only [skelL] at j2
    have hb : (0 : Int) ≤ y.toNat ∧ (y.toNat : Int) ≤ 255 := by have := y.toNat_lt; omega
    simp only [m_drop, m_take] at r0
    (try (simp -implicitDefEqProofs (maxSteps := 2000000) (disch := first | omega | (simp only [vz_push, vz_set, drop_size]; first | done | omega)) only [push_cast, seval, f68N0, f68N1, f68N2, g0, g3, g4, g5, r0, hsz, hy, hlen])) <;> (repeat' ((first | apply ga_dec | apply ga_ndec | apply cd_dec | apply cd_ndec | apply gd_dec | apply gd_ndec | apply ga_split | apply cd_split | apply gd_split) <;> intro hc <;> try (simp -implicitDefEqProofs (maxSteps := 2000000) (disch := first | omega | (simp only [vz_push, vz_set, drop_size]; first | done | omega)) only [push_cast, seval, f68N0, f68N1, f68N2, hc, g0, g3, g4, g5, r0, hsz, hy, hlen])))
    · exact out_int (by (repeat first | assumption | exact KeepA.refl _ | apply KeepA.push | refine KeepA.set ?_ (by first | omega | (simp only [vz_push, vz_set, drop_size]; omega) | (have h9 := KeepA.size_le (by assumption); (try simp only [vz_push, vz_set, drop_size] at *); omega)) _ | refine KeepA.drop ?_ (by first | omega | (simp only [vz_push, vz_set, drop_size]; omega) | (have h9 := KeepA.size_le (by assumption); (try simp only [vz_push, vz_set, drop_size] at *); omega)) | refine KeepA.trans ?_ (by assumption))) (by rw [j2, if_pos hc])
    · exact ⟨51 - (i + 1), by omega, i + 1, rfl, by omega, by congr 2, by rw [j2, if_neg hc]⟩
  · simp -implicitDefEqProofs (maxSteps := 2000000) (disch := first | omega | (simp only [vz_push, vz_set, drop_size]; first | done | omega)) only [push_cast, seval, f68N0, f68N1, f68N2, g0]
    have : i = 51 := by omega
    subst this
    rw [List.drop_eq_nil_of_le (by rw [sl_len]; omega)] at j2
    exact out_int (by (repeat first | assumption | exact KeepA.refl _ | apply KeepA.push | refine KeepA.set ?_ (by first | omega | (simp only [vz_push, vz_set, drop_size]; omega) | (have h9 := KeepA.size_le (by assumption); (try simp only [vz_push, vz_set, drop_size] at *); omega)) _ | refine KeepA.drop ?_ (by first | omega | (simp only [vz_push, vz_set, drop_size]; omega) | (have h9 := KeepA.size_le (by assumption); (try simp only [vz_push, vz_set, drop_size] at *); omega)) | refine KeepA.trans ?_ (by assumption))) j2.symm
theorem refOf_ok (v : Int) : PC (XK k) 29 [.c (.int .i64 v)] (.c (.int .i64 (refOf v))) := by
  refine PC_of fun s => ?_
  refine f29_in (hk _ (by decide)) ?_
  (try (simp -implicitDefEqProofs (maxSteps := 2000000) (disch := first | omega | (simp only [vz_push, vz_set, drop_size]; first | done | omega)) only [push_cast, seval, f29N0, f29N1, f29N2, f29N3])) <;> (repeat' ((first | apply ga_dec | apply ga_ndec | apply cd_dec | apply cd_ndec | apply gd_dec | apply gd_ndec | apply ga_split | apply cd_split | apply gd_split) <;> intro hc <;> try (simp -implicitDefEqProofs (maxSteps := 2000000) (disch := first | omega | (simp only [vz_push, vz_set, drop_size]; first | done | omega)) only [push_cast, seval, f29N0, f29N1, f29N2, f29N3, hc])))
  refine VC_pure (rright_ok hk _) ?_
  (try (simp -implicitDefEqProofs (maxSteps := 2000000) (disch := first | omega | (simp only [vz_push, vz_set, drop_size]; first | done | omega)) only [push_cast, seval, f29N0, f29N1, f29N2, f29N3])) <;> (repeat' ((first | apply ga_dec | apply ga_ndec | apply cd_dec | apply cd_ndec | apply gd_dec | apply gd_ndec | apply ga_split | apply cd_split | apply gd_split) <;> intro hc <;> try (simp -implicitDefEqProofs (maxSteps := 2000000) (disch := first | omega | (simp only [vz_push, vz_set, drop_size]; first | done | omega)) only [push_cast, seval, f29N0, f29N1, f29N2, f29N3, hc])))
  · exact out_int (by (repeat first | assumption | exact KeepA.refl _ | apply KeepA.push | refine KeepA.set ?_ (by first | omega | (simp only [vz_push, vz_set, drop_size]; omega) | (have h9 := KeepA.size_le (by assumption); (try simp only [vz_push, vz_set, drop_size] at *); omega)) _ | refine KeepA.drop ?_ (by first | omega | (simp only [vz_push, vz_set, drop_size]; omega) | (have h9 := KeepA.size_le (by assumption); (try simp only [vz_push, vz_set, drop_size] at *); omega)) | refine KeepA.trans ?_ (by assumption))) (by simp_all [refOf])
  · exact out_int (by (repeat first | assumption | exact KeepA.refl _ | apply KeepA.push | refine KeepA.set ?_ (by first | omega | (simp only [vz_push, vz_set, drop_size]; omega) | (have h9 := KeepA.size_le (by assumption); (try simp only [vz_push, vz_set, drop_size] at *); omega)) _ | refine KeepA.drop ?_ (by first | omega | (simp only [vz_push, vz_set, drop_size]; omega) | (have h9 := KeepA.size_le (by assumption); (try simp only [vz_push, vz_set, drop_size] at *); omega)) | refine KeepA.trans ?_ (by assumption))) (by simp_all [refOf])
  refine VC_pure (odd_ok hk _) ?_
  (try (simp -implicitDefEqProofs (maxSteps := 2000000) (disch := first | omega | (simp only [vz_push, vz_set, drop_size]; first | done | omega)) only [push_cast, seval, f29N0, f29N1, f29N2, f29N3])) <;> (repeat' ((first | apply ga_dec | apply ga_ndec | apply cd_dec | apply cd_ndec | apply gd_dec | apply gd_ndec | apply ga_split | apply cd_split | apply gd_split) <;> intro hc <;> try (simp -implicitDefEqProofs (maxSteps := 2000000) (disch := first | omega | (simp only [vz_push, vz_set, drop_size]; first | done | omega)) only [push_cast, seval, f29N0, f29N1, f29N2, f29N3, hc])))
  · exact out_int (by (repeat first | assumption | exact KeepA.refl _ | apply KeepA.push | refine KeepA.set ?_ (by first | omega | (simp only [vz_push, vz_set, drop_size]; omega) | (have h9 := KeepA.size_le (by assumption); (try simp only [vz_push, vz_set, drop_size] at *); omega)) _ | refine KeepA.drop ?_ (by first | omega | (simp only [vz_push, vz_set, drop_size]; omega) | (have h9 := KeepA.size_le (by assumption); (try simp only [vz_push, vz_set, drop_size] at *); omega)) | refine KeepA.trans ?_ (by assumption))) (by simp_all [refOf]; intro; omega)
  refine VC_pure (refSkel_ok hk _) ?_
  (try (simp -implicitDefEqProofs (maxSteps := 2000000) (disch := first | omega | (simp only [vz_push, vz_set, drop_size]; first | done | omega)) only [push_cast, seval, f29N0, f29N1, f29N2, f29N3])) <;> (repeat' ((first | apply ga_dec | apply ga_ndec | apply cd_dec | apply cd_ndec | apply gd_dec | apply gd_ndec | apply ga_split | apply cd_split | apply gd_split) <;> intro hc <;> try (simp -implicitDefEqProofs (maxSteps := 2000000) (disch := first | omega | (simp only [vz_push, vz_set, drop_size]; first | done | omega)) only [push_cast, seval, f29N0, f29N1, f29N2, f29N3, hc])))
  · exact out_int (by (repeat first | assumption | exact KeepA.refl _ | apply KeepA.push | refine KeepA.set ?_ (by first | omega | (simp only [vz_push, vz_set, drop_size]; omega) | (have h9 := KeepA.size_le (by assumption); (try simp only [vz_push, vz_set, drop_size] at *); omega)) _ | refine KeepA.drop ?_ (by first | omega | (simp only [vz_push, vz_set, drop_size]; omega) | (have h9 := KeepA.size_le (by assumption); (try simp only [vz_push, vz_set, drop_size] at *); omega)) | refine KeepA.trans ?_ (by assumption))) (by simp_all [refOf]; omega)
  rw [bsP_ints und23 ty3 (l := WL) (by kernel_rfl) (by kernel_rfl) rfl]
  simp -implicitDefEqProofs (maxSteps := 2000000) (disch := first | omega | (simp only [vz_push, vz_set, drop_size]; first | done | omega)) only [push_cast, seval, f29N0, f29N1, f29N2, f29N3]
  refine VC_ints (within_ok hk v WL (by show 34 < 1000; omega)) (Firm.c _) (Rigid.c _) (gp_eq rfl) (by kernel_rfl) (by rw [capX_half]; omega) ?_
  (try (simp -implicitDefEqProofs (maxSteps := 2000000) (disch := first | omega | (simp only [vz_push, vz_set, drop_size]; first | done | omega)) only [push_cast, seval, f29N0, f29N1, f29N2, f29N3])) <;> (repeat' ((first | apply ga_dec | apply ga_ndec | apply cd_dec | apply cd_ndec | apply gd_dec | apply gd_ndec | apply ga_split | apply cd_split | apply gd_split) <;> intro hc <;> try (simp -implicitDefEqProofs (maxSteps := 2000000) (disch := first | omega | (simp only [vz_push, vz_set, drop_size]; first | done | omega)) only [push_cast, seval, f29N0, f29N1, f29N2, f29N3, hc])))
  · exact out_int (by (repeat first | assumption | exact KeepA.refl _ | apply KeepA.push | refine KeepA.set ?_ (by first | omega | (simp only [vz_push, vz_set, drop_size]; omega) | (have h9 := KeepA.size_le (by assumption); (try simp only [vz_push, vz_set, drop_size] at *); omega)) _ | refine KeepA.drop ?_ (by first | omega | (simp only [vz_push, vz_set, drop_size]; omega) | (have h9 := KeepA.size_le (by assumption); (try simp only [vz_push, vz_set, drop_size] at *); omega)) | refine KeepA.trans ?_ (by assumption))) (by simp_all [refOf]; omega)
  · exact out_int (by (repeat first | assumption | exact KeepA.refl _ | apply KeepA.push | refine KeepA.set ?_ (by first | omega | (simp only [vz_push, vz_set, drop_size]; omega) | (have h9 := KeepA.size_le (by assumption); (try simp only [vz_push, vz_set, drop_size] at *); omega)) _ | refine KeepA.drop ?_ (by first | omega | (simp only [vz_push, vz_set, drop_size]; omega) | (have h9 := KeepA.size_le (by assumption); (try simp only [vz_push, vz_set, drop_size] at *); omega)) | refine KeepA.trans ?_ (by assumption))) (by simp_all [refOf]; omega)
end
end Go.Proofs.YtpckldhojfjdmaaDoor.Ab
