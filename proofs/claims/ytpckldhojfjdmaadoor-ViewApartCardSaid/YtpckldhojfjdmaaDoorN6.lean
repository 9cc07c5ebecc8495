/- Views: cells of a prompt and a line. -/
import Derived.Test.YtpckldhojfjdmaaDoorN5
namespace Go.Proofs.YtpckldhojfjdmaaDoor.Ab
open Go.Proofs
set_option maxRecDepth 100000
set_option maxHeartbeats 4000000
set_option linter.unusedSimpArgs false
set_option linter.unusedVariables false
set_option linter.unnecessarySimpa false
set_option linter.unusedSectionVars false
/-- A line's cells, from a sign on. -/
def lineC : Nat → List (Int × Int) → List Cl
  | _, [] => []
  | i, p :: l => cellsS p i ++ lineC (i + 1) l
theorem lineC_snoc (p : Int × Int) : ∀ (l : List (Int × Int)) (i : Nat), lineC i (l ++ [p]) = lineC i l ++ cellsS p ((i + l.length : Nat) : Int)
  | [], i => by simp [lineC]
  | q :: l, i => by
    rw [List.cons_append, lineC, lineC_snoc p l (i + 1), lineC, List.append_assoc, List.length_cons, show i + 1 + l.length = i + (l.length + 1) by omega]
def promptC (l : List (Int × Int)) : List Cl := l.flatMap fun p => cellsS p (-1)
def viewC (a b : List (Int × Int)) : List Cl := promptC a ++ lineC 0 b
theorem promptC_snoc (p : Int × Int) (l : List (Int × Int)) : promptC (l ++ [p]) = promptC l ++ cellsS p (-1) := by simp [promptC]
theorem colsV_rng (v : Int) : 0 ≤ colsV v ∧ colsV v ≤ 80 := by
  have := textV_len v
  unfold colsV widthV
  (repeat' split) <;> omega
theorem cellsS_le (p : Int × Int) (own : Int) : (cellsS p own).length ≤ 80 := by
  have h1 := cellsS_len p own
  have h2 := colsV_rng p.1
  omega
theorem promptC_le (l : List (Int × Int)) : (promptC l).length ≤ 80 * l.length := by
  unfold promptC
  induction l with
  | nil => simp
  | cons p l ih =>
    have := cellsS_le p (-1)
    rw [List.flatMap_cons, List.length_append, List.length_cons]
    omega
theorem lineC_le : ∀ (l : List (Int × Int)) (i : Nat), (lineC i l).length ≤ 80 * l.length
  | [], i => by simp [lineC]
  | p :: l, i => by
    have := cellsS_le p i
    have := lineC_le l (i + 1)
    rw [lineC, List.length_append, List.length_cons]
    omega
def colsSum (l : List (Int × Int)) : Int := (l.map fun p => colsV p.1).sum
theorem colsSum_snoc (p : Int × Int) (l : List (Int × Int)) : colsSum (l ++ [p]) = colsSum l + colsV p.1 := by simp [colsSum]
theorem colsSum_rng (l : List (Int × Int)) : 0 ≤ colsSum l ∧ colsSum l ≤ 80 * l.length := by
  unfold colsSum
  induction l with
  | nil => simp
  | cons p l ih =>
    have := colsV_rng p.1
    simp only [List.map_cons, List.sum_cons, List.length_cons]
    omega
theorem promptC_len (l : List (Int × Int)) : ((promptC l).length : Int) = colsSum l := by
  unfold promptC colsSum
  induction l with
  | nil => rfl
  | cons p l ih =>
    have := cellsS_len p (-1)
    rw [List.flatMap_cons, List.length_append, List.map_cons, List.sum_cons]
    omega
theorem lineC_len : ∀ (l : List (Int × Int)) (i : Nat), ((lineC i l).length : Int) = colsSum l
  | [], i => rfl
  | p :: l, i => by
    have h1 := cellsS_len p i
    have h2 := lineC_len l (i + 1)
    unfold colsSum at h2 ⊢
    rw [lineC, List.length_append, List.map_cons, List.sum_cons]
    omega
/-- Where the first cell stands that is not of a sign ahead. -/
def firstO (i : Int) : List Cl → Nat
  | [] => 0
  | c :: l => if i ≤ c.2.2.1 then 0 else firstO i l + 1
section
variable {k : Nat → List Value → Option Value} (hk : ∀ f, f ≠ 95 → Open k f)
include hk
theorem vof_ok (hrep : ∀ d : Nat, d ≤ 16 → PC (XK k) 95 [tx [48], .c (.int .i64 d)] (tx (List.replicate d 48))) (a b : List (Int × Int)) (ha : a.length ≤ 100) (hb : b.length ≤ 100) :
    PC (XK k) 45 [LS a, LS b] (.tup [LC (if a.all rightS = true ∧ b.all rightS = true then viewC a b else []), .c (.int .i64 (if a.all rightS = true ∧ b.all rightS = true then 0 else 2))]) := by
  refine PC_of fun s => ?_
  refine f45_in (hk _ (by decide)) ?_
  by_cases hok : a.all rightS = true ∧ b.all rightS = true
  · rw [if_pos hok, if_pos hok]
    have e1 : (if a.all rightS = true then (0 : Int) else 2) = 0 := if_pos hok.1
    have e2 : (if b.all rightS = true then (0 : Int) else 2) = 0 := if_pos hok.2
    have hroom : roomOk (a.length + b.length) 40 = true := (room_ok (by constructor <;> (try dsimp only) <;> omega))
    repeat' (first | ((first | apply ga_dec | apply ga_ndec | apply cd_dec | apply cd_ndec | apply gd_dec | apply gd_ndec | apply ga_split | apply cd_split | apply gd_split) <;> intro hc <;> (try (simp -implicitDefEqProofs (maxSteps := 2000000) (disch := first | omega | (simp only [vz_push, vz_set, drop_size]; done) | (simp only [vz_push, vz_set, drop_size]; omega)) only [push_cast, seval, f45N0, f45N1, f45N2, f45N3, f45N4, hc, e1, e2, hroom])) <;> (try (exfalso; omega))) | refine VC_pure (check_ok hk a (by omega)) ?_ | refine VC_pure (check_ok hk b (by omega)) ?_ | (simp -implicitDefEqProofs (maxSteps := 2000000) (disch := first | omega | (simp only [vz_push, vz_set, drop_size]; done) | (simp only [vz_push, vz_set, drop_size]; omega)) only [push_cast, seval, f45N0, f45N1, f45N2, f45N3, f45N4, e1, e2, hroom]))
    refine VW_iter (fun m ρ s' => ∃ j : Nat, m = a.length - j ∧ j ≤ a.length ∧ ρ.get 0 = LS a ∧ ρ.get 1 = LS b ∧ ρ.get 25 = LS a ∧ ρ.get 26 = .c (.int .i64 a.length) ∧ ρ.get 27 = .c (.int .i64 j) ∧ (Gw s s' 70 5 (ρ.get 6) (promptC (a.take j)).length ((promptC (a.take j)).map eC).flatten) ∧ (KeepA s s')) (a.length) ⟨0, rfl, Nat.zero_le _, by (((try simp -implicitDefEqProofs only [eA_tmp, eA_const, AEnv.get_set, ofA_get, List.getD_cons_zero, List.getD_cons_succ, ↓reduceIte, reduceCtorEq, Nat.reduceEqDiff]); try (first | (with_reducible assumption) | (with_reducible rfl) | (congr 2 <;> omega) | rfl))), by (((try simp -implicitDefEqProofs only [eA_tmp, eA_const, AEnv.get_set, ofA_get, List.getD_cons_zero, List.getD_cons_succ, ↓reduceIte, reduceCtorEq, Nat.reduceEqDiff]); try (first | (with_reducible assumption) | (with_reducible rfl) | (congr 2 <;> omega) | rfl))), by (((try simp -implicitDefEqProofs only [eA_tmp, eA_const, AEnv.get_set, ofA_get, List.getD_cons_zero, List.getD_cons_succ, ↓reduceIte, reduceCtorEq, Nat.reduceEqDiff]); try (first | (with_reducible assumption) | (with_reducible rfl) | (congr 2 <;> omega) | rfl))), by (((try simp -implicitDefEqProofs only [eA_tmp, eA_const, AEnv.get_set, ofA_get, List.getD_cons_zero, List.getD_cons_succ, ↓reduceIte, reduceCtorEq, Nat.reduceEqDiff]); try (first | (with_reducible assumption) | (with_reducible rfl) | (congr 2 <;> omega) | rfl))), by (((try simp -implicitDefEqProofs only [eA_tmp, eA_const, AEnv.get_set, ofA_get, List.getD_cons_zero, List.getD_cons_succ, ↓reduceIte, reduceCtorEq, Nat.reduceEqDiff]); try (first | (with_reducible assumption) | (with_reducible rfl) | (congr 2 <;> omega) | rfl))), (by (((try simp -implicitDefEqProofs only [eA_tmp, eA_const, AEnv.get_set, ofA_get, List.getD_cons_zero, List.getD_cons_succ, ↓reduceIte, reduceCtorEq, Nat.reduceEqDiff]); try (first | (with_reducible assumption) | (with_reducible rfl) | (congr 2 <;> omega) | rfl))); refine (Gw.room s.size 0 (a.length + b.length) [] _ _ (gp_eq rfl) (Nat.le_refl _) (by simp) ?_ (Nat.zero_le _)).cast rfl rfl; simp [reps_len]), by (repeat first | assumption | exact KeepA.refl _ | apply KeepA.push | refine KeepA.set ?_ (by first | omega | (simp only [vz_push, vz_set, drop_size]; omega) | (have h9 := KeepA.size_le (by assumption); (try simp only [vz_push, vz_set, drop_size] at *); omega)) _ | refine KeepA.drop ?_ (by first | omega | (simp only [vz_push, vz_set, drop_size]; omega) | (have h9 := KeepA.size_le (by assumption); (try simp only [vz_push, vz_set, drop_size] at *); omega)) | refine KeepA.trans ?_ (by assumption))⟩ ?_
    rintro m ρ s' ⟨j, rfl, hj, g0, g1, g25, g26, g27, j1, j2⟩
    obtain ⟨v, g6⟩ : ∃ v, ρ.get 6 = v := ⟨_, rfl⟩
    rw [g6] at j1
    simp -implicitDefEqProofs (maxSteps := 2000000) (disch := first | omega | (simp only [vz_push, vz_set, drop_size]; done) | (simp only [vz_push, vz_set, drop_size]; omega)) only [push_cast, seval, f45N0, f45N1, f45N2, f45N3, f45N4, g25, g26, g27]
    refine cd_dec (fun hc => ?_) (fun hc => ?_)
    · obtain ⟨x, hx⟩ : ∃ x, a[j]? = some x := ⟨_, List.getElem?_eq_getElem (by omega)⟩
      have hstep : promptC (a.take (j + 1)) = promptC (a.take j) ++ cellsS x (-1) := by rw [take_snoc hx, promptC_snoc]
      have hle := promptC_le (a.take j)
      rw [List.length_take] at hle
      have hx80 := cellsS_le x (-1)
      generalize promptC (a.take j) = pc at *
      repeat' (first | ((first | apply ga_dec | apply ga_ndec | apply cd_dec | apply cd_ndec | apply gd_dec | apply gd_ndec | apply ga_split | apply cd_split | apply gd_split) <;> intro hc <;> (try (simp -implicitDefEqProofs (maxSteps := 2000000) (disch := first | omega | (simp only [vz_push, vz_set, drop_size]; done) | (simp only [vz_push, vz_set, drop_size]; omega)) only [push_cast, seval, f45N0, f45N1, f45N2, f45N3, f45N4, hc, g0, g1, g25, g26, g27, g6, hx, eS])) <;> (try (exfalso; omega))) | refine VC_pure (cells_ok hk hrep x _) ?_ | (simp -implicitDefEqProofs (maxSteps := 2000000) (disch := first | omega | (simp only [vz_push, vz_set, drop_size]; done) | (simp only [vz_push, vz_set, drop_size]; omega)) only [push_cast, seval, f45N0, f45N1, f45N2, f45N3, f45N4, g0, g1, g25, g26, g27, g6, hx, eS]))
      refine Gw.step (sz := 5) (by exact (j1.push _).set (fun hb => by have := (j1.blk hb).2; omega) _) (by (repeat first | assumption | exact KeepA.refl _ | apply KeepA.push | refine KeepA.set ?_ (by first | omega | (simp only [vz_push, vz_set, drop_size]; omega) | (have h9 := KeepA.size_le (by assumption); (try simp only [vz_push, vz_set, drop_size] at *); omega)) _ | refine KeepA.drop ?_ (by first | omega | (simp only [vz_push, vz_set, drop_size]; omega) | (have h9 := KeepA.size_le (by assumption); (try simp only [vz_push, vz_set, drop_size] at *); omega)) | refine KeepA.trans ?_ (by assumption))) rfl (flat_lenf (f := eC) (sz := 5) len_eC _) (ones_map one_eC) (room_ok (by constructor <;> (try dsimp only) <;> omega)) ?_
      intro v' s2 hg hbt hn hk'
      (try (simp -implicitDefEqProofs (maxSteps := 2000000) (disch := first | omega | (simp only [vz_push, vz_set, drop_size]; done) | (simp only [vz_push, vz_set, drop_size]; omega)) only [push_cast, seval, f45N0, f45N1, f45N2, f45N3, f45N4, g0, g1, g25, g26, g27])) <;> (repeat' ((first | apply ga_dec | apply ga_ndec | apply cd_dec | apply cd_ndec | apply gd_dec | apply gd_ndec | apply ga_split | apply cd_split | apply gd_split) <;> intro hc <;> try (simp -implicitDefEqProofs (maxSteps := 2000000) (disch := first | omega | (simp only [vz_push, vz_set, drop_size]; done) | (simp only [vz_push, vz_set, drop_size]; omega)) only [push_cast, seval, f45N0, f45N1, f45N2, f45N3, f45N4, hc, g0, g1, g25, g26, g27])))
      refine ⟨_ - (j + 1), by omega, j + 1, rfl, by omega, ?_⟩ <;> (try simp only [Int.natCast_add, Int.natCast_one, cast_lit, and_true, true_and, eq_self])
      rw [hstep]
      exact ⟨hg.cast (by simp) (by simp), hk'⟩
    · obtain rfl : j = a.length := by omega
      rw [List.take_length] at j1
      simp -implicitDefEqProofs (maxSteps := 2000000) (disch := first | omega | (simp only [vz_push, vz_set, drop_size]; done) | (simp only [vz_push, vz_set, drop_size]; omega)) only [push_cast, seval, f45N0, f45N1, f45N2, f45N3, f45N4, g0, g1, g6]
      have hpl := promptC_le a
      have e0 : promptC a ++ lineC 0 (b.take 0) = promptC a := by simp [lineC]
      have i1 := j1
      have i2 := j2
      clear j1 j2
      refine VW_iter (fun m ρ s' => ∃ j : Nat, m = b.length - j ∧ j ≤ b.length ∧ ρ.get 36 = LS b ∧ ρ.get 37 = .c (.int .i64 b.length) ∧ ρ.get 38 = .c (.int .i64 j) ∧ (Gw s s' 70 5 (ρ.get 6) (promptC a ++ lineC 0 (b.take j)).length ((promptC a ++ lineC 0 (b.take j)).map eC).flatten) ∧ (KeepA s s')) (b.length) ⟨0, rfl, Nat.zero_le _, by (((try simp -implicitDefEqProofs only [eA_tmp, eA_const, AEnv.get_set, ofA_get, List.getD_cons_zero, List.getD_cons_succ, ↓reduceIte, reduceCtorEq, Nat.reduceEqDiff]); try (first | (with_reducible assumption) | (with_reducible rfl) | (congr 2 <;> omega) | rfl))), by (((try simp -implicitDefEqProofs only [eA_tmp, eA_const, AEnv.get_set, ofA_get, List.getD_cons_zero, List.getD_cons_succ, ↓reduceIte, reduceCtorEq, Nat.reduceEqDiff]); try (first | (with_reducible assumption) | (with_reducible rfl) | (congr 2 <;> omega) | rfl))), by (((try simp -implicitDefEqProofs only [eA_tmp, eA_const, AEnv.get_set, ofA_get, List.getD_cons_zero, List.getD_cons_succ, ↓reduceIte, reduceCtorEq, Nat.reduceEqDiff]); try (first | (with_reducible assumption) | (with_reducible rfl) | (congr 2 <;> omega) | rfl))), (by rw [e0]; (((try simp -implicitDefEqProofs only [eA_tmp, eA_const, AEnv.get_set, ofA_get, List.getD_cons_zero, List.getD_cons_succ, ↓reduceIte, reduceCtorEq, Nat.reduceEqDiff]); try (first | (with_reducible assumption) | (with_reducible rfl) | (congr 2 <;> omega) | rfl))); rw [g6]; exact i1), i2⟩ ?_
      rintro m ρ s' ⟨j, rfl, hj, g36, g37, g38, j1, j2⟩
      obtain ⟨v2, g6'⟩ : ∃ v2, ρ.get 6 = v2 := ⟨_, rfl⟩
      rw [g6'] at j1
      simp -implicitDefEqProofs (maxSteps := 2000000) (disch := first | omega | (simp only [vz_push, vz_set, drop_size]; done) | (simp only [vz_push, vz_set, drop_size]; omega)) only [push_cast, seval, f45N0, f45N1, f45N2, f45N3, f45N4, g36, g37, g38]
      refine cd_dec (fun hc => ?_) (fun hc => ?_)
      · obtain ⟨x, hx⟩ : ∃ x, b[j]? = some x := ⟨_, List.getElem?_eq_getElem (by omega)⟩
        have hstep : promptC a ++ lineC 0 (b.take (j + 1)) = (promptC a ++ lineC 0 (b.take j)) ++ cellsS x (j : Int) := by
          rw [take_snoc hx, lineC_snoc, List.length_take, Nat.min_eq_left (by omega), Nat.zero_add, List.append_assoc]
        have hle := lineC_le (b.take j) 0
        rw [List.length_take] at hle
        have hx80 := cellsS_le x j
        have hle2 : (promptC a ++ lineC 0 (b.take j)).length ≤ 20000 := by rw [List.length_append]; omega
        generalize promptC a ++ lineC 0 (b.take j) = pc at *
        repeat' (first | ((first | apply ga_dec | apply ga_ndec | apply cd_dec | apply cd_ndec | apply gd_dec | apply gd_ndec | apply ga_split | apply cd_split | apply gd_split) <;> intro hc <;> (try (simp -implicitDefEqProofs (maxSteps := 2000000) (disch := first | omega | (simp only [vz_push, vz_set, drop_size]; done) | (simp only [vz_push, vz_set, drop_size]; omega)) only [push_cast, seval, f45N0, f45N1, f45N2, f45N3, f45N4, hc, g36, g37, g38, g6', hx, eS])) <;> (try (exfalso; omega))) | refine VC_pure (cells_ok hk hrep x _) ?_ | (simp -implicitDefEqProofs (maxSteps := 2000000) (disch := first | omega | (simp only [vz_push, vz_set, drop_size]; done) | (simp only [vz_push, vz_set, drop_size]; omega)) only [push_cast, seval, f45N0, f45N1, f45N2, f45N3, f45N4, g36, g37, g38, g6', hx, eS]))
        refine Gw.step (sz := 5) (by exact (j1.push _).set (fun hb => by have := (j1.blk hb).2; omega) _) (by (repeat first | assumption | exact KeepA.refl _ | apply KeepA.push | refine KeepA.set ?_ (by first | omega | (simp only [vz_push, vz_set, drop_size]; omega) | (have h9 := KeepA.size_le (by assumption); (try simp only [vz_push, vz_set, drop_size] at *); omega)) _ | refine KeepA.drop ?_ (by first | omega | (simp only [vz_push, vz_set, drop_size]; omega) | (have h9 := KeepA.size_le (by assumption); (try simp only [vz_push, vz_set, drop_size] at *); omega)) | refine KeepA.trans ?_ (by assumption))) rfl (flat_lenf (f := eC) (sz := 5) len_eC _) (ones_map one_eC) (room_ok (by constructor <;> (try dsimp only) <;> omega)) ?_
        intro v' s2 hg hbt hn hk'
        (try (simp -implicitDefEqProofs (maxSteps := 2000000) (disch := first | omega | (simp only [vz_push, vz_set, drop_size]; done) | (simp only [vz_push, vz_set, drop_size]; omega)) only [push_cast, seval, f45N0, f45N1, f45N2, f45N3, f45N4, g36, g37, g38])) <;> (repeat' ((first | apply ga_dec | apply ga_ndec | apply cd_dec | apply cd_ndec | apply gd_dec | apply gd_ndec | apply ga_split | apply cd_split | apply gd_split) <;> intro hc <;> try (simp -implicitDefEqProofs (maxSteps := 2000000) (disch := first | omega | (simp only [vz_push, vz_set, drop_size]; done) | (simp only [vz_push, vz_set, drop_size]; omega)) only [push_cast, seval, f45N0, f45N1, f45N2, f45N3, f45N4, hc, g36, g37, g38])))
        refine ⟨_ - (j + 1), by omega, j + 1, rfl, by omega, ?_⟩ <;> (try simp only [Int.natCast_add, Int.natCast_one, cast_lit, and_true, true_and, eq_self])
        rw [hstep]
        exact ⟨hg.cast (by simp) (by simp), hk'⟩
      · obtain rfl : j = b.length := by omega
        rw [List.take_length] at j1
        simp -implicitDefEqProofs (maxSteps := 2000000) (disch := first | omega | (simp only [vz_push, vz_set, drop_size]; done) | (simp only [vz_push, vz_set, drop_size]; omega)) only [push_cast, seval, f45N0, f45N1, f45N2, f45N3, f45N4, g6']
        exact ⟨by (repeat first | assumption | exact KeepA.refl _ | apply KeepA.push | refine KeepA.set ?_ (by first | omega | (simp only [vz_push, vz_set, drop_size]; omega) | (have h9 := KeepA.size_le (by assumption); (try simp only [vz_push, vz_set, drop_size] at *); omega)) _ | refine KeepA.drop ?_ (by first | omega | (simp only [vz_push, vz_set, drop_size]; omega) | (have h9 := KeepA.size_le (by assumption); (try simp only [vz_push, vz_set, drop_size] at *); omega)) | refine KeepA.trans ?_ (by assumption)), Se.tup (Ses.cons (j1.se (fun b hb => hb) rfl (all_map len_eC) (by rw [List.length_map]; rfl) (FirmR.flat (all_map firm_eC))) (Ses.cons (Se.c _) Ses.nil))⟩
  · rw [if_neg hok, if_neg hok]
    cases h1 : a.all rightS
    · repeat' (first | ((first | apply ga_dec | apply ga_ndec | apply cd_dec | apply cd_ndec | apply gd_dec | apply gd_ndec | apply ga_split | apply cd_split | apply gd_split) <;> intro hc <;> (try (simp -implicitDefEqProofs (maxSteps := 2000000) (disch := first | omega | (simp only [vz_push, vz_set, drop_size]; done) | (simp only [vz_push, vz_set, drop_size]; omega)) only [push_cast, seval, f45N0, f45N1, f45N2, f45N3, f45N4, hc, h1])) <;> (try (exfalso; omega))) | refine VC_pure (check_ok hk a (by omega)) ?_ | (simp -implicitDefEqProofs (maxSteps := 2000000) (disch := first | omega | (simp only [vz_push, vz_set, drop_size]; done) | (simp only [vz_push, vz_set, drop_size]; omega)) only [push_cast, seval, f45N0, f45N1, f45N2, f45N3, f45N4, h1]))
      exact ⟨by (repeat first | assumption | exact KeepA.refl _ | apply KeepA.push | refine KeepA.set ?_ (by first | omega | (simp only [vz_push, vz_set, drop_size]; omega) | (have h9 := KeepA.size_le (by assumption); (try simp only [vz_push, vz_set, drop_size] at *); omega)) _ | refine KeepA.drop ?_ (by first | omega | (simp only [vz_push, vz_set, drop_size]; omega) | (have h9 := KeepA.size_le (by assumption); (try simp only [vz_push, vz_set, drop_size] at *); omega)) | refine KeepA.trans ?_ (by assumption)), Se.tup (Ses.cons (Se.nil _) (Ses.cons (Se.c _) Ses.nil))⟩
    · cases h2 : b.all rightS
      · repeat' (first | ((first | apply ga_dec | apply ga_ndec | apply cd_dec | apply cd_ndec | apply gd_dec | apply gd_ndec | apply ga_split | apply cd_split | apply gd_split) <;> intro hc <;> (try (simp -implicitDefEqProofs (maxSteps := 2000000) (disch := first | omega | (simp only [vz_push, vz_set, drop_size]; done) | (simp only [vz_push, vz_set, drop_size]; omega)) only [push_cast, seval, f45N0, f45N1, f45N2, f45N3, f45N4, hc, h1, h2])) <;> (try (exfalso; omega))) | refine VC_pure (check_ok hk a (by omega)) ?_ | refine VC_pure (check_ok hk b (by omega)) ?_ | (simp -implicitDefEqProofs (maxSteps := 2000000) (disch := first | omega | (simp only [vz_push, vz_set, drop_size]; done) | (simp only [vz_push, vz_set, drop_size]; omega)) only [push_cast, seval, f45N0, f45N1, f45N2, f45N3, f45N4, h1, h2]))
        exact ⟨by (repeat first | assumption | exact KeepA.refl _ | apply KeepA.push | refine KeepA.set ?_ (by first | omega | (simp only [vz_push, vz_set, drop_size]; omega) | (have h9 := KeepA.size_le (by assumption); (try simp only [vz_push, vz_set, drop_size] at *); omega)) _ | refine KeepA.drop ?_ (by first | omega | (simp only [vz_push, vz_set, drop_size]; omega) | (have h9 := KeepA.size_le (by assumption); (try simp only [vz_push, vz_set, drop_size] at *); omega)) | refine KeepA.trans ?_ (by assumption)), Se.tup (Ses.cons (Se.nil _) (Ses.cons (Se.c _) Ses.nil))⟩
      · exact absurd ⟨h1, h2⟩ hok
theorem rvof_ok (a b : List (Int × Int)) (ha : a.length ≤ 100) (hb : b.length ≤ 100) : PC (XK k) 47 [LS a, LS b] (LC (viewC a b)) := by
  refine PC_of fun s => ?_
  refine f47_in (hk _ (by decide)) ?_
  repeat' (first | ((first | apply ga_dec | apply ga_ndec | apply cd_dec | apply cd_ndec | apply gd_dec | apply gd_ndec | apply ga_split | apply cd_split | apply gd_split) <;> intro hc <;> (try (simp -implicitDefEqProofs (maxSteps := 2000000) (disch := first | omega | (simp only [vz_push, vz_set, drop_size]; done) | (simp only [vz_push, vz_set, drop_size]; omega)) only [push_cast, seval, f47N0, f47N1, f47N2, f47N3, hc])) <;> (try (exfalso; omega))) | (simp -implicitDefEqProofs (maxSteps := 2000000) (disch := first | omega | (simp only [vz_push, vz_set, drop_size]; done) | (simp only [vz_push, vz_set, drop_size]; omega)) only [push_cast, seval, f47N0, f47N1, f47N2, f47N3]))
  refine VW_iter (fun m ρ s' => ∃ j : Nat, m = a.length - j ∧ j ≤ a.length ∧ ρ.get 0 = LS a ∧ ρ.get 1 = LS b ∧ ρ.get 6 = .c (.int .i64 j) ∧ (Gw s s' 70 5 (ρ.get 5) (promptC (a.take j)).length ((promptC (a.take j)).map eC).flatten) ∧ (KeepA s s')) (a.length) ⟨0, rfl, Nat.zero_le _, by (((try simp -implicitDefEqProofs only [eA_tmp, eA_const, AEnv.get_set, ofA_get, List.getD_cons_zero, List.getD_cons_succ, ↓reduceIte, reduceCtorEq, Nat.reduceEqDiff]); try (first | (with_reducible assumption) | (with_reducible rfl) | (congr 2 <;> omega) | rfl))), by (((try simp -implicitDefEqProofs only [eA_tmp, eA_const, AEnv.get_set, ofA_get, List.getD_cons_zero, List.getD_cons_succ, ↓reduceIte, reduceCtorEq, Nat.reduceEqDiff]); try (first | (with_reducible assumption) | (with_reducible rfl) | (congr 2 <;> omega) | rfl))), by (((try simp -implicitDefEqProofs only [eA_tmp, eA_const, AEnv.get_set, ofA_get, List.getD_cons_zero, List.getD_cons_succ, ↓reduceIte, reduceCtorEq, Nat.reduceEqDiff]); try (first | (with_reducible assumption) | (with_reducible rfl) | (congr 2 <;> omega) | rfl))), (by (((try simp -implicitDefEqProofs only [eA_tmp, eA_const, AEnv.get_set, ofA_get, List.getD_cons_zero, List.getD_cons_succ, ↓reduceIte, reduceCtorEq, Nat.reduceEqDiff]); try (first | (with_reducible assumption) | (with_reducible rfl) | (congr 2 <;> omega) | rfl))); exact Gw.nil), by (repeat first | assumption | exact KeepA.refl _ | apply KeepA.push | refine KeepA.set ?_ (by first | omega | (simp only [vz_push, vz_set, drop_size]; omega) | (have h9 := KeepA.size_le (by assumption); (try simp only [vz_push, vz_set, drop_size] at *); omega)) _ | refine KeepA.drop ?_ (by first | omega | (simp only [vz_push, vz_set, drop_size]; omega) | (have h9 := KeepA.size_le (by assumption); (try simp only [vz_push, vz_set, drop_size] at *); omega)) | refine KeepA.trans ?_ (by assumption))⟩ ?_
  rintro m ρ s' ⟨j, rfl, hj, g0, g1, g6, j1, j2⟩
  obtain ⟨v, g5⟩ : ∃ v, ρ.get 5 = v := ⟨_, rfl⟩
  rw [g5] at j1
  simp -implicitDefEqProofs (maxSteps := 2000000) (disch := first | omega | (simp only [vz_push, vz_set, drop_size]; done) | (simp only [vz_push, vz_set, drop_size]; omega)) only [push_cast, seval, f47N0, f47N1, f47N2, f47N3, g0, g6]
  refine cd_dec (fun hc => ?_) (fun hc => ?_)
  · obtain ⟨x, hx⟩ : ∃ x, a[j]? = some x := ⟨_, List.getElem?_eq_getElem (by omega)⟩
    have hstep : promptC (a.take (j + 1)) = promptC (a.take j) ++ cellsS x (-1) := by rw [take_snoc hx, promptC_snoc]
    have hle := promptC_le (a.take j)
    rw [List.length_take] at hle
    have hx80 := cellsS_le x (-1)
    generalize promptC (a.take j) = pc at *
    repeat' (first | ((first | apply ga_dec | apply ga_ndec | apply cd_dec | apply cd_ndec | apply gd_dec | apply gd_ndec | apply ga_split | apply cd_split | apply gd_split) <;> intro hc <;> (try (simp -implicitDefEqProofs (maxSteps := 2000000) (disch := first | omega | (simp only [vz_push, vz_set, drop_size]; done) | (simp only [vz_push, vz_set, drop_size]; omega)) only [push_cast, seval, f47N0, f47N1, f47N2, f47N3, hc, g0, g1, g5, g6, hx, eS])) <;> (try (exfalso; omega))) | refine VC_pure (rcells_ok hk x _) ?_ | (simp -implicitDefEqProofs (maxSteps := 2000000) (disch := first | omega | (simp only [vz_push, vz_set, drop_size]; done) | (simp only [vz_push, vz_set, drop_size]; omega)) only [push_cast, seval, f47N0, f47N1, f47N2, f47N3, g0, g1, g5, g6, hx, eS]))
    refine Gw.step (sz := 5) j1 (by (repeat first | assumption | exact KeepA.refl _ | apply KeepA.push | refine KeepA.set ?_ (by first | omega | (simp only [vz_push, vz_set, drop_size]; omega) | (have h9 := KeepA.size_le (by assumption); (try simp only [vz_push, vz_set, drop_size] at *); omega)) _ | refine KeepA.drop ?_ (by first | omega | (simp only [vz_push, vz_set, drop_size]; omega) | (have h9 := KeepA.size_le (by assumption); (try simp only [vz_push, vz_set, drop_size] at *); omega)) | refine KeepA.trans ?_ (by assumption))) rfl (flat_lenf (f := eC) (sz := 5) len_eC _) (ones_map one_eC) (room_ok (by constructor <;> (try dsimp only) <;> omega)) ?_
    intro v' s2 hg hbt hn hk'
    (try (simp -implicitDefEqProofs (maxSteps := 2000000) (disch := first | omega | (simp only [vz_push, vz_set, drop_size]; done) | (simp only [vz_push, vz_set, drop_size]; omega)) only [push_cast, seval, f47N0, f47N1, f47N2, f47N3, g0, g1, g6])) <;> (repeat' ((first | apply ga_dec | apply ga_ndec | apply cd_dec | apply cd_ndec | apply gd_dec | apply gd_ndec | apply ga_split | apply cd_split | apply gd_split) <;> intro hc <;> try (simp -implicitDefEqProofs (maxSteps := 2000000) (disch := first | omega | (simp only [vz_push, vz_set, drop_size]; done) | (simp only [vz_push, vz_set, drop_size]; omega)) only [push_cast, seval, f47N0, f47N1, f47N2, f47N3, hc, g0, g1, g6])))
    refine ⟨_ - (j + 1), by omega, j + 1, rfl, by omega, ?_⟩ <;> (try simp only [Int.natCast_add, Int.natCast_one, cast_lit, and_true, true_and, eq_self])
    rw [hstep]
    exact ⟨hg.cast (by simp) (by simp), hk'⟩
  · obtain rfl : j = a.length := by omega
    rw [List.take_length] at j1
    simp -implicitDefEqProofs (maxSteps := 2000000) (disch := first | omega | (simp only [vz_push, vz_set, drop_size]; done) | (simp only [vz_push, vz_set, drop_size]; omega)) only [push_cast, seval, f47N0, f47N1, f47N2, f47N3, g0, g1, g5]
    have hpl := promptC_le a
    have e0 : promptC a ++ lineC 0 (b.take 0) = promptC a := by simp [lineC]
    have i1 := j1
    have i2 := j2
    clear j1 j2
    refine VW_iter (fun m ρ s' => ∃ j : Nat, m = b.length - j ∧ j ≤ b.length ∧ ρ.get 1 = LS b ∧ ρ.get 7 = .c (.int .i64 j) ∧ (Gw s s' 70 5 (ρ.get 5) (promptC a ++ lineC 0 (b.take j)).length ((promptC a ++ lineC 0 (b.take j)).map eC).flatten) ∧ (KeepA s s')) (b.length) ⟨0, rfl, Nat.zero_le _, by (((try simp -implicitDefEqProofs only [eA_tmp, eA_const, AEnv.get_set, ofA_get, List.getD_cons_zero, List.getD_cons_succ, ↓reduceIte, reduceCtorEq, Nat.reduceEqDiff]); try (first | (with_reducible assumption) | (with_reducible rfl) | (congr 2 <;> omega) | rfl))), by (((try simp -implicitDefEqProofs only [eA_tmp, eA_const, AEnv.get_set, ofA_get, List.getD_cons_zero, List.getD_cons_succ, ↓reduceIte, reduceCtorEq, Nat.reduceEqDiff]); try (first | (with_reducible assumption) | (with_reducible rfl) | (congr 2 <;> omega) | rfl))), (by rw [e0]; (((try simp -implicitDefEqProofs only [eA_tmp, eA_const, AEnv.get_set, ofA_get, List.getD_cons_zero, List.getD_cons_succ, ↓reduceIte, reduceCtorEq, Nat.reduceEqDiff]); try (first | (with_reducible assumption) | (with_reducible rfl) | (congr 2 <;> omega) | rfl))); rw [g5]; exact i1), i2⟩ ?_
    rintro m ρ s' ⟨j, rfl, hj, g1, g7, j1, j2⟩
    obtain ⟨v2, g5'⟩ : ∃ v2, ρ.get 5 = v2 := ⟨_, rfl⟩
    rw [g5'] at j1
    simp -implicitDefEqProofs (maxSteps := 2000000) (disch := first | omega | (simp only [vz_push, vz_set, drop_size]; done) | (simp only [vz_push, vz_set, drop_size]; omega)) only [push_cast, seval, f47N0, f47N1, f47N2, f47N3, g1, g7]
    refine cd_dec (fun hc => ?_) (fun hc => ?_)
    · obtain ⟨x, hx⟩ : ∃ x, b[j]? = some x := ⟨_, List.getElem?_eq_getElem (by omega)⟩
      have hstep : promptC a ++ lineC 0 (b.take (j + 1)) = (promptC a ++ lineC 0 (b.take j)) ++ cellsS x (j : Int) := by
        rw [take_snoc hx, lineC_snoc, List.length_take, Nat.min_eq_left (by omega), Nat.zero_add, List.append_assoc]
      have hle := lineC_le (b.take j) 0
      rw [List.length_take] at hle
      have hx80 := cellsS_le x j
      have hle2 : (promptC a ++ lineC 0 (b.take j)).length ≤ 20000 := by rw [List.length_append]; omega
      generalize promptC a ++ lineC 0 (b.take j) = pc at *
      repeat' (first | ((first | apply ga_dec | apply ga_ndec | apply cd_dec | apply cd_ndec | apply gd_dec | apply gd_ndec | apply ga_split | apply cd_split | apply gd_split) <;> intro hc <;> (try (simp -implicitDefEqProofs (maxSteps := 2000000) (disch := first | omega | (simp only [vz_push, vz_set, drop_size]; done) | (simp only [vz_push, vz_set, drop_size]; omega)) only [push_cast, seval, f47N0, f47N1, f47N2, f47N3, hc, g1, g7, g5', hx, eS])) <;> (try (exfalso; omega))) | refine VC_pure (rcells_ok hk x _) ?_ | (simp -implicitDefEqProofs (maxSteps := 2000000) (disch := first | omega | (simp only [vz_push, vz_set, drop_size]; done) | (simp only [vz_push, vz_set, drop_size]; omega)) only [push_cast, seval, f47N0, f47N1, f47N2, f47N3, g1, g7, g5', hx, eS]))
      refine Gw.step (sz := 5) j1 (by (repeat first | assumption | exact KeepA.refl _ | apply KeepA.push | refine KeepA.set ?_ (by first | omega | (simp only [vz_push, vz_set, drop_size]; omega) | (have h9 := KeepA.size_le (by assumption); (try simp only [vz_push, vz_set, drop_size] at *); omega)) _ | refine KeepA.drop ?_ (by first | omega | (simp only [vz_push, vz_set, drop_size]; omega) | (have h9 := KeepA.size_le (by assumption); (try simp only [vz_push, vz_set, drop_size] at *); omega)) | refine KeepA.trans ?_ (by assumption))) rfl (flat_lenf (f := eC) (sz := 5) len_eC _) (ones_map one_eC) (room_ok (by constructor <;> (try dsimp only) <;> omega)) ?_
      intro v' s2 hg hbt hn hk'
      (try (simp -implicitDefEqProofs (maxSteps := 2000000) (disch := first | omega | (simp only [vz_push, vz_set, drop_size]; done) | (simp only [vz_push, vz_set, drop_size]; omega)) only [push_cast, seval, f47N0, f47N1, f47N2, f47N3, g1, g7])) <;> (repeat' ((first | apply ga_dec | apply ga_ndec | apply cd_dec | apply cd_ndec | apply gd_dec | apply gd_ndec | apply ga_split | apply cd_split | apply gd_split) <;> intro hc <;> try (simp -implicitDefEqProofs (maxSteps := 2000000) (disch := first | omega | (simp only [vz_push, vz_set, drop_size]; done) | (simp only [vz_push, vz_set, drop_size]; omega)) only [push_cast, seval, f47N0, f47N1, f47N2, f47N3, hc, g1, g7])))
      refine ⟨_ - (j + 1), by omega, j + 1, rfl, by omega, ?_⟩ <;> (try simp only [Int.natCast_add, Int.natCast_one, cast_lit, and_true, true_and, eq_self])
      rw [hstep]
      exact ⟨hg.cast (by simp) (by simp), hk'⟩
    · obtain rfl : j = b.length := by omega
      rw [List.take_length] at j1
      simp -implicitDefEqProofs (maxSteps := 2000000) (disch := first | omega | (simp only [vz_push, vz_set, drop_size]; done) | (simp only [vz_push, vz_set, drop_size]; omega)) only [push_cast, seval, f47N0, f47N1, f47N2, f47N3, g5']
      exact Gw.outm j1 (by (repeat first | assumption | exact KeepA.refl _ | apply KeepA.push | refine KeepA.set ?_ (by first | omega | (simp only [vz_push, vz_set, drop_size]; omega) | (have h9 := KeepA.size_le (by assumption); (try simp only [vz_push, vz_set, drop_size] at *); omega)) _ | refine KeepA.drop ?_ (by first | omega | (simp only [vz_push, vz_set, drop_size]; omega) | (have h9 := KeepA.size_le (by assumption); (try simp only [vz_push, vz_set, drop_size] at *); omega)) | refine KeepA.trans ?_ (by assumption))) (fun _ => rfl) firm_eC (by decide)
theorem vcols_ok (hrep : ∀ d : Nat, d ≤ 16 → PC (XK k) 95 [tx [48], .c (.int .i64 d)] (tx (List.replicate d 48))) (l : List (Int × Int)) (hl : l.length ≤ 1000) : PC (XK k) 48 [LS l] (.c (.int .i64 (colsSum l))) := by
  refine PC_of fun s => ?_
  refine f48_in (hk _ (by decide)) ?_
  repeat' (first | ((first | apply ga_dec | apply ga_ndec | apply cd_dec | apply cd_ndec | apply gd_dec | apply gd_ndec | apply ga_split | apply cd_split | apply gd_split) <;> intro hc <;> (try (simp -implicitDefEqProofs (maxSteps := 2000000) (disch := first | omega | (simp only [vz_push, vz_set, drop_size]; done) | (simp only [vz_push, vz_set, drop_size]; omega)) only [push_cast, seval, f48N0, f48N1, hc])) <;> (try (exfalso; omega))) | (simp -implicitDefEqProofs (maxSteps := 2000000) (disch := first | omega | (simp only [vz_push, vz_set, drop_size]; done) | (simp only [vz_push, vz_set, drop_size]; omega)) only [push_cast, seval, f48N0, f48N1]))
  refine VW_iter (fun m ρ s' => ∃ j : Nat, m = l.length - j ∧ j ≤ l.length ∧ ρ.get 3 = .c (.int .i64 (colsSum (l.take j))) ∧ ρ.get 6 = LS l ∧ ρ.get 7 = .c (.int .i64 l.length) ∧ ρ.get 8 = .c (.int .i64 j) ∧ (KeepA s s')) (l.length) ⟨0, rfl, Nat.zero_le _, by (((try simp -implicitDefEqProofs only [eA_tmp, eA_const, AEnv.get_set, ofA_get, List.getD_cons_zero, List.getD_cons_succ, ↓reduceIte, reduceCtorEq, Nat.reduceEqDiff]); try (first | (with_reducible assumption) | (with_reducible rfl) | (congr 2 <;> omega) | rfl))), by (((try simp -implicitDefEqProofs only [eA_tmp, eA_const, AEnv.get_set, ofA_get, List.getD_cons_zero, List.getD_cons_succ, ↓reduceIte, reduceCtorEq, Nat.reduceEqDiff]); try (first | (with_reducible assumption) | (with_reducible rfl) | (congr 2 <;> omega) | rfl))), by (((try simp -implicitDefEqProofs only [eA_tmp, eA_const, AEnv.get_set, ofA_get, List.getD_cons_zero, List.getD_cons_succ, ↓reduceIte, reduceCtorEq, Nat.reduceEqDiff]); try (first | (with_reducible assumption) | (with_reducible rfl) | (congr 2 <;> omega) | rfl))), by (((try simp -implicitDefEqProofs only [eA_tmp, eA_const, AEnv.get_set, ofA_get, List.getD_cons_zero, List.getD_cons_succ, ↓reduceIte, reduceCtorEq, Nat.reduceEqDiff]); try (first | (with_reducible assumption) | (with_reducible rfl) | (congr 2 <;> omega) | rfl))), by (repeat first | assumption | exact KeepA.refl _ | apply KeepA.push | refine KeepA.set ?_ (by first | omega | (simp only [vz_push, vz_set, drop_size]; omega) | (have h9 := KeepA.size_le (by assumption); (try simp only [vz_push, vz_set, drop_size] at *); omega)) _ | refine KeepA.drop ?_ (by first | omega | (simp only [vz_push, vz_set, drop_size]; omega) | (have h9 := KeepA.size_le (by assumption); (try simp only [vz_push, vz_set, drop_size] at *); omega)) | refine KeepA.trans ?_ (by assumption))⟩ ?_
  rintro m ρ s' ⟨j, rfl, hj, g3, g6, g7, g8, j1⟩
  simp -implicitDefEqProofs (maxSteps := 2000000) (disch := first | omega | (simp only [vz_push, vz_set, drop_size]; done) | (simp only [vz_push, vz_set, drop_size]; omega)) only [push_cast, seval, f48N0, f48N1, g6, g7, g8]
  refine cd_dec (fun hc => ?_) (fun hc => ?_)
  · obtain ⟨x, hx⟩ : ∃ x, l[j]? = some x := ⟨_, List.getElem?_eq_getElem (by omega)⟩
    have hstep : colsSum (l.take (j + 1)) = colsSum (l.take j) + colsV x.1 := by rw [take_snoc hx, colsSum_snoc]
    have hle := colsSum_rng (l.take j)
    rw [List.length_take] at hle
    have hx80 := colsV_rng x.1
    repeat' (first | ((first | apply ga_dec | apply ga_ndec | apply cd_dec | apply cd_ndec | apply gd_dec | apply gd_ndec | apply ga_split | apply cd_split | apply gd_split) <;> intro hc <;> (try (simp -implicitDefEqProofs (maxSteps := 2000000) (disch := first | omega | (simp only [vz_push, vz_set, drop_size]; done) | (simp only [vz_push, vz_set, drop_size]; omega)) only [push_cast, seval, f48N0, f48N1, hc, g3, g6, g7, g8, hx, eS])) <;> (try (exfalso; omega))) | refine VC_pure (cols_ok hk hrep _) ?_ | (simp -implicitDefEqProofs (maxSteps := 2000000) (disch := first | omega | (simp only [vz_push, vz_set, drop_size]; done) | (simp only [vz_push, vz_set, drop_size]; omega)) only [push_cast, seval, f48N0, f48N1, g3, g6, g7, g8, hx, eS]))
    refine ⟨_ - (j + 1), by omega, j + 1, rfl, by omega, ?_⟩ <;> (try simp only [Int.natCast_add, Int.natCast_one, cast_lit, and_true, true_and, eq_self])
    exact ⟨by rw [hstep], by (repeat first | assumption | exact KeepA.refl _ | apply KeepA.push | refine KeepA.set ?_ (by first | omega | (simp only [vz_push, vz_set, drop_size]; omega) | (have h9 := KeepA.size_le (by assumption); (try simp only [vz_push, vz_set, drop_size] at *); omega)) _ | refine KeepA.drop ?_ (by first | omega | (simp only [vz_push, vz_set, drop_size]; omega) | (have h9 := KeepA.size_le (by assumption); (try simp only [vz_push, vz_set, drop_size] at *); omega)) | refine KeepA.trans ?_ (by assumption))⟩
  · obtain rfl : j = l.length := by omega
    rw [List.take_length] at g3
    simp -implicitDefEqProofs (maxSteps := 2000000) (disch := first | omega | (simp only [vz_push, vz_set, drop_size]; done) | (simp only [vz_push, vz_set, drop_size]; omega)) only [push_cast, seval, f48N0, f48N1, g3]
    exact out_int (by (repeat first | assumption | exact KeepA.refl _ | apply KeepA.push | refine KeepA.set ?_ (by first | omega | (simp only [vz_push, vz_set, drop_size]; omega) | (have h9 := KeepA.size_le (by assumption); (try simp only [vz_push, vz_set, drop_size] at *); omega)) _ | refine KeepA.drop ?_ (by first | omega | (simp only [vz_push, vz_set, drop_size]; omega) | (have h9 := KeepA.size_le (by assumption); (try simp only [vz_push, vz_set, drop_size] at *); omega)) | refine KeepA.trans ?_ (by assumption))) rfl
theorem seeker_ok (i : Int) : PC (XK k) 79 [.c (.int .i64 i)] (.fn 104 [] [.fptr [.c (.int .i64 i)] 0]) := by
  refine PC_of fun s => ?_
  refine f79_in (hk _ (by decide)) ?_
  (try (simp -implicitDefEqProofs (maxSteps := 2000000) (disch := first | omega | (simp only [vz_push, vz_set, drop_size]; done) | (simp only [vz_push, vz_set, drop_size]; omega)) only [push_cast, seval, f79N0])) <;> (repeat' ((first | apply ga_dec | apply ga_ndec | apply cd_dec | apply cd_ndec | apply gd_dec | apply gd_ndec | apply ga_split | apply cd_split | apply gd_split) <;> intro hc <;> try (simp -implicitDefEqProofs (maxSteps := 2000000) (disch := first | omega | (simp only [vz_push, vz_set, drop_size]; done) | (simp only [vz_push, vz_set, drop_size]; omega)) only [push_cast, seval, f79N0, hc])))
  refine ⟨by (repeat first | assumption | exact KeepA.refl _ | apply KeepA.push | refine KeepA.set ?_ (by first | omega | (simp only [vz_push, vz_set, drop_size]; omega) | (have h9 := KeepA.size_le (by assumption); (try simp only [vz_push, vz_set, drop_size] at *); omega)) _ | refine KeepA.drop ?_ (by first | omega | (simp only [vz_push, vz_set, drop_size]; omega) | (have h9 := KeepA.size_le (by assumption); (try simp only [vz_push, vz_set, drop_size] at *); omega)) | refine KeepA.trans ?_ (by assumption)), Se.fn Ses.nil (Ses.cons (Se.box (b := s.size) (e := 3) (by (simp -implicitDefEqProofs (disch := first | omega | (simp only [vz_push, vz_set, drop_size]; done) | (simp only [vz_push, vz_set, drop_size]; omega)) only [drop_ne, gp_ne, gp_eq, gs_ne, gs_eq])) (by omega) (Se.c _)) Ses.nil)⟩
theorem seeker1_ok (c : Cl) (i : Int) : PC (XK k) 104 [.agg (eC c), .fptr [.c (.int .i64 i)] 0] (.c (.bool (decide (i ≤ c.2.2.1)))) := by
  refine PC_of fun s => ?_
  refine f104_in (hk _ (by decide)) ?_
  (try (simp -implicitDefEqProofs (maxSteps := 2000000) (disch := first | omega | (simp only [vz_push, vz_set, drop_size]; done) | (simp only [vz_push, vz_set, drop_size]; omega)) only [push_cast, seval, f104N0, eC])) <;> (repeat' ((first | apply ga_dec | apply ga_ndec | apply cd_dec | apply cd_ndec | apply gd_dec | apply gd_ndec | apply ga_split | apply cd_split | apply gd_split) <;> intro hc <;> try (simp -implicitDefEqProofs (maxSteps := 2000000) (disch := first | omega | (simp only [vz_push, vz_set, drop_size]; done) | (simp only [vz_push, vz_set, drop_size]; omega)) only [push_cast, seval, f104N0, hc, eC])))
  all_goals exact out_bool (by (repeat first | assumption | exact KeepA.refl _ | apply KeepA.push | refine KeepA.set ?_ (by first | omega | (simp only [vz_push, vz_set, drop_size]; omega) | (have h9 := KeepA.size_le (by assumption); (try simp only [vz_push, vz_set, drop_size] at *); omega)) _ | refine KeepA.drop ?_ (by first | omega | (simp only [vz_push, vz_set, drop_size]; omega) | (have h9 := KeepA.size_le (by assumption); (try simp only [vz_push, vz_set, drop_size] at *); omega)) | refine KeepA.trans ?_ (by assumption))) rfl
theorem first_ok (l : List Cl) (i : Int) (hl : l.length < 1000000) : PC (XK k) 49 [LC l, .c (.int .i64 i)] (.c (.int .i64 (firstO i l))) := by
  refine PC_of fun s => ?_
  refine f49_in (hk _ (by decide)) ?_
  repeat' (first | ((first | apply ga_dec | apply ga_ndec | apply cd_dec | apply cd_ndec | apply gd_dec | apply gd_ndec | apply ga_split | apply cd_split | apply gd_split) <;> intro hc <;> (try (simp -implicitDefEqProofs (maxSteps := 2000000) (disch := first | omega | (simp only [vz_push, vz_set, drop_size]; done) | (simp only [vz_push, vz_set, drop_size]; omega)) only [push_cast, seval, f49N0, f49N1, f49N2, hc])) <;> (try (exfalso; omega))) | refine VC_pure (seeker_ok hk i) ?_ | (simp -implicitDefEqProofs (maxSteps := 2000000) (disch := first | omega | (simp only [vz_push, vz_set, drop_size]; done) | (simp only [vz_push, vz_set, drop_size]; omega)) only [push_cast, seval, f49N0, f49N1, f49N2]))
  refine VW_iter (fun m ρ s' => ∃ j : Nat, m = l.length - j ∧ j ≤ l.length ∧ ρ.get 0 = LC l ∧ ρ.get 5 = .fn 104 [] [.fptr [.c (.int .i64 i)] 0] ∧ ρ.get 10 = .c (.int .i64 l.length) ∧ ρ.get 11 = .c (.int .i64 j) ∧ (KeepA s s') ∧ (firstO i l = j + firstO i (l.drop j))) (l.length) ⟨0, rfl, Nat.zero_le _, by (((try simp -implicitDefEqProofs only [eA_tmp, eA_const, AEnv.get_set, ofA_get, List.getD_cons_zero, List.getD_cons_succ, ↓reduceIte, reduceCtorEq, Nat.reduceEqDiff]); try (first | (with_reducible assumption) | (with_reducible rfl) | (congr 2 <;> omega) | rfl))), by (((try simp -implicitDefEqProofs only [eA_tmp, eA_const, AEnv.get_set, ofA_get, List.getD_cons_zero, List.getD_cons_succ, ↓reduceIte, reduceCtorEq, Nat.reduceEqDiff]); try (first | (with_reducible assumption) | (with_reducible rfl) | (congr 2 <;> omega) | rfl))), by (((try simp -implicitDefEqProofs only [eA_tmp, eA_const, AEnv.get_set, ofA_get, List.getD_cons_zero, List.getD_cons_succ, ↓reduceIte, reduceCtorEq, Nat.reduceEqDiff]); try (first | (with_reducible assumption) | (with_reducible rfl) | (congr 2 <;> omega) | rfl))), by (((try simp -implicitDefEqProofs only [eA_tmp, eA_const, AEnv.get_set, ofA_get, List.getD_cons_zero, List.getD_cons_succ, ↓reduceIte, reduceCtorEq, Nat.reduceEqDiff]); try (first | (with_reducible assumption) | (with_reducible rfl) | (congr 2 <;> omega) | rfl))), by (repeat first | assumption | exact KeepA.refl _ | apply KeepA.push | refine KeepA.set ?_ (by first | omega | (simp only [vz_push, vz_set, drop_size]; omega) | (have h9 := KeepA.size_le (by assumption); (try simp only [vz_push, vz_set, drop_size] at *); omega)) _ | refine KeepA.drop ?_ (by first | omega | (simp only [vz_push, vz_set, drop_size]; omega) | (have h9 := KeepA.size_le (by assumption); (try simp only [vz_push, vz_set, drop_size] at *); omega)) | refine KeepA.trans ?_ (by assumption)), by simp⟩ ?_
  rintro m ρ s' ⟨j, rfl, hj, g0, g5, g10, g11, j1, j2⟩
  simp -implicitDefEqProofs (maxSteps := 2000000) (disch := first | omega | (simp only [vz_push, vz_set, drop_size]; done) | (simp only [vz_push, vz_set, drop_size]; omega)) only [push_cast, seval, f49N0, f49N1, f49N2, g10, g11]
  refine cd_dec (fun hc => ?_) (fun hc => ?_)
  · obtain ⟨x, hx⟩ : ∃ x, l[j]? = some x := ⟨_, List.getElem?_eq_getElem (by omega)⟩
    rw [drop_at hx] at j2
    have e : firstO i (x :: l.drop (j + 1)) = if i ≤ x.2.2.1 then 0 else firstO i (l.drop (j + 1)) + 1 := rfl
    rw [e] at j2
    by_cases hi : i ≤ x.2.2.1
    · rw [if_pos hi] at j2
      repeat' (first | ((first | apply ga_dec | apply ga_ndec | apply cd_dec | apply cd_ndec | apply gd_dec | apply gd_ndec | apply ga_split | apply cd_split | apply gd_split) <;> intro hc <;> (try (simp -implicitDefEqProofs (maxSteps := 2000000) (disch := first | omega | (simp only [vz_push, vz_set, drop_size]; done) | (simp only [vz_push, vz_set, drop_size]; omega)) only [push_cast, seval, f49N0, f49N1, f49N2, hc, g0, g5, g10, g11, hx, eC, hi])) <;> (try (exfalso; omega))) | refine VC_pure (seeker1_ok hk x i) ?_ | (simp -implicitDefEqProofs (maxSteps := 2000000) (disch := first | omega | (simp only [vz_push, vz_set, drop_size]; done) | (simp only [vz_push, vz_set, drop_size]; omega)) only [push_cast, seval, f49N0, f49N1, f49N2, g0, g5, g10, g11, hx, eC, hi]))
      exact out_int (by (repeat first | assumption | exact KeepA.refl _ | apply KeepA.push | refine KeepA.set ?_ (by first | omega | (simp only [vz_push, vz_set, drop_size]; omega) | (have h9 := KeepA.size_le (by assumption); (try simp only [vz_push, vz_set, drop_size] at *); omega)) _ | refine KeepA.drop ?_ (by first | omega | (simp only [vz_push, vz_set, drop_size]; omega) | (have h9 := KeepA.size_le (by assumption); (try simp only [vz_push, vz_set, drop_size] at *); omega)) | refine KeepA.trans ?_ (by assumption))) (by omega)
    · rw [if_neg hi] at j2
      repeat' (first | ((first | apply ga_dec | apply ga_ndec | apply cd_dec | apply cd_ndec | apply gd_dec | apply gd_ndec | apply ga_split | apply cd_split | apply gd_split) <;> intro hc <;> (try (simp -implicitDefEqProofs (maxSteps := 2000000) (disch := first | omega | (simp only [vz_push, vz_set, drop_size]; done) | (simp only [vz_push, vz_set, drop_size]; omega)) only [push_cast, seval, f49N0, f49N1, f49N2, hc, g0, g5, g10, g11, hx, eC, hi])) <;> (try (exfalso; omega))) | refine VC_pure (seeker1_ok hk x i) ?_ | (simp -implicitDefEqProofs (maxSteps := 2000000) (disch := first | omega | (simp only [vz_push, vz_set, drop_size]; done) | (simp only [vz_push, vz_set, drop_size]; omega)) only [push_cast, seval, f49N0, f49N1, f49N2, g0, g5, g10, g11, hx, eC, hi]))
      refine ⟨_ - (j + 1), by omega, j + 1, rfl, by omega, ?_⟩ <;> (try simp only [Int.natCast_add, Int.natCast_one, cast_lit, and_true, true_and, eq_self])
      exact ⟨by (repeat first | assumption | exact KeepA.refl _ | apply KeepA.push | refine KeepA.set ?_ (by first | omega | (simp only [vz_push, vz_set, drop_size]; omega) | (have h9 := KeepA.size_le (by assumption); (try simp only [vz_push, vz_set, drop_size] at *); omega)) _ | refine KeepA.drop ?_ (by first | omega | (simp only [vz_push, vz_set, drop_size]; omega) | (have h9 := KeepA.size_le (by assumption); (try simp only [vz_push, vz_set, drop_size] at *); omega)) | refine KeepA.trans ?_ (by assumption)), by omega⟩
  · obtain rfl : j = l.length := by omega
    rw [List.drop_length] at j2
    have e : firstO i [] = 0 := rfl
    simp -implicitDefEqProofs (maxSteps := 2000000) (disch := first | omega | (simp only [vz_push, vz_set, drop_size]; done) | (simp only [vz_push, vz_set, drop_size]; omega)) only [push_cast, seval, f49N0, f49N1, f49N2, g0]
    exact out_int (by (repeat first | assumption | exact KeepA.refl _ | apply KeepA.push | refine KeepA.set ?_ (by first | omega | (simp only [vz_push, vz_set, drop_size]; omega) | (have h9 := KeepA.size_le (by assumption); (try simp only [vz_push, vz_set, drop_size] at *); omega)) _ | refine KeepA.drop ?_ (by first | omega | (simp only [vz_push, vz_set, drop_size]; omega) | (have h9 := KeepA.size_le (by assumption); (try simp only [vz_push, vz_set, drop_size] at *); omega)) | refine KeepA.trans ?_ (by assumption))) (by omega)
theorem viewOf_ok (hrep : ∀ d : Nat, d ≤ 16 → PC (XK k) 95 [tx [48], .c (.int .i64 d)] (tx (List.replicate d 48))) (haw : k 44 [] = some (.bool true)) (a b : List (Int × Int)) (s : VS) :
    VC (XK k) 10 [LS a, LS b] s fun r _ => r = .c (.bool true) := by
  have haw' : ∀ {vs : VS} {Q : AV → VS → Prop}, Q (.c (.bool true)) vs → VC (XK k) 44 [] vs Q := fun h => VC_known (ws := []) (v := .bool true) haw rfl rfl h
  refine f10_in (hk _ (by decide)) ?_
  by_cases hab : a.length ≤ 40 ∧ b.length ≤ 60
  · by_cases hok : a.all rightS = true ∧ b.all rightS = true
    · have h1 := vof_ok hk hrep a b (by omega) (by omega)
      rw [if_pos hok, if_pos hok] at h1
      have q1 := hok.1
      have q2 := hok.2
      have hlen : ((viewC a b).length : Int) = colsSum a + colsSum b := by
        have := promptC_len a
        have := lineC_len b 0
        unfold viewC
        rw [List.length_append]
        omega
      have r1 := colsSum_rng a
      have r2 := colsSum_rng b
      repeat' (first | ((first | apply ga_dec | apply ga_ndec | apply cd_dec | apply cd_ndec | apply gd_dec | apply gd_ndec | apply ga_split | apply cd_split | apply gd_split) <;> intro hc <;> (try (simp -implicitDefEqProofs (maxSteps := 2000000) (disch := first | omega | (simp only [vz_push, vz_set, drop_size]; done) | (simp only [vz_push, vz_set, drop_size]; omega)) only [push_cast, seval, f10N0, f10N1, hc, q1, q2, hlen])) <;> (try (exfalso; omega))) | refine VC_pure (h1) ?_ | refine haw' ?_ | refine VC_pure (all_ok hk a (by omega)) ?_ | refine VC_pure (all_ok hk b (by omega)) ?_ | refine VC_pure (rvof_ok hk a b (by omega) (by omega)) ?_ | refine VC_pure (all6_ok hk _ _ (by omega)) ?_ | refine VC_pure (vcols_ok hk hrep _ (by omega)) ?_ | (simp -implicitDefEqProofs (maxSteps := 2000000) (disch := first | omega | (simp only [vz_push, vz_set, drop_size]; done) | (simp only [vz_push, vz_set, drop_size]; omega)) only [push_cast, seval, f10N0, f10N1, q1, q2, hlen]))
    · have h1 := vof_ok hk hrep a b (by omega) (by omega)
      rw [if_neg hok, if_neg hok] at h1
      cases q1 : a.all rightS
      · repeat' (first | ((first | apply ga_dec | apply ga_ndec | apply cd_dec | apply cd_ndec | apply gd_dec | apply gd_ndec | apply ga_split | apply cd_split | apply gd_split) <;> intro hc <;> (try (simp -implicitDefEqProofs (maxSteps := 2000000) (disch := first | omega | (simp only [vz_push, vz_set, drop_size]; done) | (simp only [vz_push, vz_set, drop_size]; omega)) only [push_cast, seval, f10N0, f10N1, hc, q1])) <;> (try (exfalso; omega))) | refine VC_pure (h1) ?_ | refine haw' ?_ | refine VC_pure (all_ok hk a (by omega)) ?_ | refine VC_pure (all_ok hk b (by omega)) ?_ | (simp -implicitDefEqProofs (maxSteps := 2000000) (disch := first | omega | (simp only [vz_push, vz_set, drop_size]; done) | (simp only [vz_push, vz_set, drop_size]; omega)) only [push_cast, seval, f10N0, f10N1, q1]))
      · have q2 : b.all rightS = false := by
          cases h : b.all rightS
          · rfl
          · exact absurd ⟨q1, h⟩ hok
        repeat' (first | ((first | apply ga_dec | apply ga_ndec | apply cd_dec | apply cd_ndec | apply gd_dec | apply gd_ndec | apply ga_split | apply cd_split | apply gd_split) <;> intro hc <;> (try (simp -implicitDefEqProofs (maxSteps := 2000000) (disch := first | omega | (simp only [vz_push, vz_set, drop_size]; done) | (simp only [vz_push, vz_set, drop_size]; omega)) only [push_cast, seval, f10N0, f10N1, hc, q1, q2])) <;> (try (exfalso; omega))) | refine VC_pure (h1) ?_ | refine haw' ?_ | refine VC_pure (all_ok hk a (by omega)) ?_ | refine VC_pure (all_ok hk b (by omega)) ?_ | (simp -implicitDefEqProofs (maxSteps := 2000000) (disch := first | omega | (simp only [vz_push, vz_set, drop_size]; done) | (simp only [vz_push, vz_set, drop_size]; omega)) only [push_cast, seval, f10N0, f10N1, q1, q2]))
  · repeat' (first | ((first | apply ga_dec | apply ga_ndec | apply cd_dec | apply cd_ndec | apply gd_dec | apply gd_ndec | apply ga_split | apply cd_split | apply gd_split) <;> intro hc <;> (try (simp -implicitDefEqProofs (maxSteps := 2000000) (disch := first | omega | (simp only [vz_push, vz_set, drop_size]; done) | (simp only [vz_push, vz_set, drop_size]; omega)) only [push_cast, seval, f10N0, f10N1, hc])) <;> (try (exfalso; omega))) | refine haw' ?_ | (simp -implicitDefEqProofs (maxSteps := 2000000) (disch := first | omega | (simp only [vz_push, vz_set, drop_size]; done) | (simp only [vz_push, vz_set, drop_size]; omega)) only [push_cast, seval, f10N0, f10N1]))
end
end Go.Proofs.YtpckldhojfjdmaaDoor.Ab
