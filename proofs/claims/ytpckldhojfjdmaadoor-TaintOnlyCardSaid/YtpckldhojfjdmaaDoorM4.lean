/- Where a line came from: taint.Only, taint.Ends; the law TaintOnly. -/
import Derived.Test.YtpckldhojfjdmaaDoorL1
import Derived.Test.YtpckldhojfjdmaaDoorN1
import Derived.Test.YtpckldhojfjdmaaDoorDS
namespace Go.Proofs.YtpckldhojfjdmaaDoor.Ab
open Go.Proofs
set_option maxRecDepth 100000
set_option maxHeartbeats 4000000
set_option linter.unusedSimpArgs false
set_option linter.unusedVariables false
set_option linter.unnecessarySimpa false
set_option linter.unusedSectionVars false
/-- The signs that have one of these labels. -/
def onlyL (ls : List Int) (l : List (Int × Int)) : List (Int × Int) := l.filter fun p => ls.contains p.2
theorem onlyL_snoc (ls : List Int) (l : List (Int × Int)) (p : Int × Int) : onlyL ls (l ++ [p]) = onlyL ls l ++ if ls.contains p.2 then [p] else [] := by
  unfold onlyL
  rw [List.filter_append]
  congr 1
  rw [List.filter_cons]
  cases ls.contains p.2 <;> rfl
theorem onlyL_split {ls : List Int} {l : List (Int × Int)} {i : Nat} {p : Int × Int} (h : l[i]? = some p) : onlyL ls l = onlyL ls (l.take i) ++ ((if ls.contains p.2 then [p] else []) ++ onlyL ls (l.drop (i + 1))) := by
  conv => lhs; rw [flat_split h]
  unfold onlyL
  rw [List.filter_append, List.filter_cons]
  congr 1
  cases hc : ls.contains p.2 <;> simp
theorem onlyL_le (ls : List Int) (l : List (Int × Int)) : (onlyL ls l).length ≤ l.length := List.length_filter_le _ _
def endQ (p : Int × Int) : Bool := decide (p.2 = 2 ∧ (p.1 = 10 ∨ p.1 = 13))
/-- Where pasted line ends are. -/
def endsAt : Nat → List (Int × Int) → List Int
  | _, [] => []
  | i, p :: l => (if endQ p then [(i : Int)] else []) ++ endsAt (i + 1) l
theorem endsAt_app : ∀ (l m : List (Int × Int)) (i : Nat), endsAt i (l ++ m) = endsAt i l ++ endsAt (i + l.length) m
  | [], m, i => by simp [endsAt]
  | p :: l, m, i => by rw [List.cons_append, endsAt, endsAt, endsAt_app l m (i + 1), List.append_assoc, List.length_cons, show i + 1 + l.length = i + (l.length + 1) by omega]
theorem endsAt_le : ∀ (l : List (Int × Int)) (i : Nat), (endsAt i l).length ≤ l.length
  | [], i => by simp [endsAt]
  | p :: l, i => by
    rw [endsAt, List.length_append, List.length_cons]
    have := endsAt_le l (i + 1)
    have : (if endQ p then [(i : Int)] else []).length ≤ 1 := by split <;> simp
    omega
theorem endsAt_split {l : List (Int × Int)} {i : Nat} {p : Int × Int} (h : l[i]? = some p) : endsAt 0 l = endsAt 0 (l.take i) ++ ((if endQ p then [(i : Int)] else []) ++ endsAt (i + 1) (l.drop (i + 1))) := by
  conv => lhs; rw [flat_split h]
  have hi := (List.getElem?_eq_some_iff.1 h).1
  rw [endsAt_app, List.length_take, Nat.min_eq_left (by omega), Nat.zero_add, endsAt]
theorem endsAt_snoc {l : List (Int × Int)} {i : Nat} {p : Int × Int} (h : l[i]? = some p) : endsAt 0 (l.take (i + 1)) = endsAt 0 (l.take i) ++ if endQ p then [(i : Int)] else [] := by
  have hi := (List.getElem?_eq_some_iff.1 h).1
  rw [take_snoc h, endsAt_app, List.length_take, Nat.min_eq_left (by omega), Nat.zero_add]
  simp [endsAt]
section
variable {k : Nat → List Value → Option Value} (hk : ∀ f, f ≠ 95 → Open k f)
include hk
theorem picker_ok (ls : List Int) : PC (XK k) 58 [LI ls] (.fn 86 [] [.fptr [LI ls] 0]) := by
  refine PC_of fun s => ?_
  refine f58_in (hk _ (by decide)) ?_
  (try (simp -implicitDefEqProofs (maxSteps := 2000000) (disch := first | omega | (simp only [vz_push, vz_set, drop_size]; done) | (simp only [vz_push, vz_set, drop_size]; omega)) only [push_cast, seval, f58N0])) <;> (repeat' ((first | apply ga_dec | apply ga_ndec | apply cd_dec | apply cd_ndec | apply gd_dec | apply gd_ndec | apply ga_split | apply cd_split | apply gd_split) <;> intro hc <;> try (simp -implicitDefEqProofs (maxSteps := 2000000) (disch := first | omega | (simp only [vz_push, vz_set, drop_size]; done) | (simp only [vz_push, vz_set, drop_size]; omega)) only [push_cast, seval, f58N0, hc])))
  refine ⟨by (repeat first | assumption | exact KeepA.refl _ | apply KeepA.push | refine KeepA.set ?_ (by first | omega | (simp only [vz_push, vz_set, drop_size]; omega) | (have h9 := KeepA.size_le (by assumption); (try simp only [vz_push, vz_set, drop_size] at *); omega)) _ | refine KeepA.drop ?_ (by first | omega | (simp only [vz_push, vz_set, drop_size]; omega) | (have h9 := KeepA.size_le (by assumption); (try simp only [vz_push, vz_set, drop_size] at *); omega)) | refine KeepA.trans ?_ (by assumption)), Se.fn Ses.nil (Ses.cons (Se.box (b := s.size) (e := 23) (by (simp -implicitDefEqProofs (disch := first | omega | (simp only [vz_push, vz_set, drop_size]; done) | (simp only [vz_push, vz_set, drop_size]; omega)) only [drop_ne, gp_ne, gp_eq, gs_ne, gs_eq])) (by omega) (Se.firm (Firm.LI _))) Ses.nil)⟩
theorem picker1_ok (ls : List Int) (l : List (Int × Int)) (hl : l.length < 1000000) (hls : ls.length < 1000000) : PC (XK k) 86 [LS l, .fptr [LI ls] 0] (LS (onlyL ls l)) := by
  refine PC_of fun s => ?_
  refine f86_in (hk _ (by decide)) ?_
  (try (simp -implicitDefEqProofs (maxSteps := 2000000) (disch := first | omega | (simp only [vz_push, vz_set, drop_size]; done) | (simp only [vz_push, vz_set, drop_size]; omega)) only [push_cast, seval, f86N0, f86N1, f86N2, f86N3])) <;> (repeat' ((first | apply ga_dec | apply ga_ndec | apply cd_dec | apply cd_ndec | apply gd_dec | apply gd_ndec | apply ga_split | apply cd_split | apply gd_split) <;> intro hc <;> try (simp -implicitDefEqProofs (maxSteps := 2000000) (disch := first | omega | (simp only [vz_push, vz_set, drop_size]; done) | (simp only [vz_push, vz_set, drop_size]; omega)) only [push_cast, seval, f86N0, f86N1, f86N2, f86N3, hc])))
  refine VW_iter (fun m ρ s' => ∃ j : Nat, m = l.length - j ∧ j ≤ l.length ∧ ρ.get 1 = .fptr [LI ls] 0 ∧ ρ.get 9 = LS l ∧ ρ.get 10 = .c (.int .i64 l.length) ∧ ρ.get 11 = .c (.int .i64 j) ∧ (Gw s s' 28 2 (ρ.get 4) (onlyL ls (l.take j)).length ((onlyL ls (l.take j)).map eS).flatten) ∧ (KeepA s s')) (l.length) ⟨0, rfl, Nat.zero_le _, by (((try simp -implicitDefEqProofs only [eA_tmp, eA_const, AEnv.get_set, ofA_get, List.getD_cons_zero, List.getD_cons_succ, ↓reduceIte, reduceCtorEq, Nat.reduceEqDiff]); try (first | (with_reducible assumption) | (with_reducible rfl) | (congr 2 <;> omega) | rfl))), by (((try simp -implicitDefEqProofs only [eA_tmp, eA_const, AEnv.get_set, ofA_get, List.getD_cons_zero, List.getD_cons_succ, ↓reduceIte, reduceCtorEq, Nat.reduceEqDiff]); try (first | (with_reducible assumption) | (with_reducible rfl) | (congr 2 <;> omega) | rfl))), by (((try simp -implicitDefEqProofs only [eA_tmp, eA_const, AEnv.get_set, ofA_get, List.getD_cons_zero, List.getD_cons_succ, ↓reduceIte, reduceCtorEq, Nat.reduceEqDiff]); try (first | (with_reducible assumption) | (with_reducible rfl) | (congr 2 <;> omega) | rfl))), by (((try simp -implicitDefEqProofs only [eA_tmp, eA_const, AEnv.get_set, ofA_get, List.getD_cons_zero, List.getD_cons_succ, ↓reduceIte, reduceCtorEq, Nat.reduceEqDiff]); try (first | (with_reducible assumption) | (with_reducible rfl) | (congr 2 <;> omega) | rfl))), (by (((try simp -implicitDefEqProofs only [eA_tmp, eA_const, AEnv.get_set, ofA_get, List.getD_cons_zero, List.getD_cons_succ, ↓reduceIte, reduceCtorEq, Nat.reduceEqDiff]); try (first | (with_reducible assumption) | (with_reducible rfl) | (congr 2 <;> omega) | rfl))); exact Gw.nil), by (repeat first | assumption | exact KeepA.refl _ | apply KeepA.push | refine KeepA.set ?_ (by first | omega | (simp only [vz_push, vz_set, drop_size]; omega) | (have h9 := KeepA.size_le (by assumption); (try simp only [vz_push, vz_set, drop_size] at *); omega)) _ | refine KeepA.drop ?_ (by first | omega | (simp only [vz_push, vz_set, drop_size]; omega) | (have h9 := KeepA.size_le (by assumption); (try simp only [vz_push, vz_set, drop_size] at *); omega)) | refine KeepA.trans ?_ (by assumption))⟩ ?_
  rintro m ρ s' ⟨j, rfl, hj, g1, g9, g10, g11, j1, j2⟩
  obtain ⟨v, g4⟩ : ∃ v, ρ.get 4 = v := ⟨_, rfl⟩
  rw [g4] at j1
  simp -implicitDefEqProofs (maxSteps := 2000000) (disch := first | omega | (simp only [vz_push, vz_set, drop_size]; done) | (simp only [vz_push, vz_set, drop_size]; omega)) only [push_cast, seval, f86N0, f86N1, f86N2, f86N3, g10, g11]
  refine cd_dec (fun hc => ?_) (fun hc => ?_)
  · obtain ⟨x, hx⟩ : ∃ x, l[j]? = some x := ⟨_, List.getElem?_eq_getElem (by omega)⟩
    have hstep : onlyL ls (l.take (j + 1)) = onlyL ls (l.take j) ++ if ls.contains x.2 then [x] else [] := by rw [take_snoc hx, onlyL_snoc]
    have hle := onlyL_le ls (l.take j)
    rw [List.length_take] at hle
    simp -implicitDefEqProofs (maxSteps := 2000000) (disch := first | omega | (simp only [vz_push, vz_set, drop_size]; done) | (simp only [vz_push, vz_set, drop_size]; omega)) only [push_cast, seval, f86N0, f86N1, f86N2, f86N3, g1, g9, g10, g11, hx, eS]
    obtain ⟨b, hb⟩ : ∃ b, b = s'.size := ⟨_, rfl⟩
    have hsz := j2.size_le
    have j1' := (j1.push (.own ⟨[.c (.int .i64 0), .c (.int .i64 0)], 28, 0, 0, false⟩)).set (c := s'.size) (fun hbb => by have := (j1.blk hbb).2; omega) (.own ⟨[.c (.int .i64 x.1), .c (.int .i64 x.2)], 28, 0, 0, false⟩)
    have j2' : KeepA s ((s'.push (.own ⟨[.c (.int .i64 0), .c (.int .i64 0)], 28, 0, 0, false⟩)).set s'.size (.own ⟨[.c (.int .i64 x.1), .c (.int .i64 x.2)], 28, 0, 0, false⟩)) := by (repeat first | assumption | exact KeepA.refl _ | apply KeepA.push | refine KeepA.set ?_ (by first | omega | (simp only [vz_push, vz_set, drop_size]; omega) | (have h9 := KeepA.size_le (by assumption); (try simp only [vz_push, vz_set, drop_size] at *); omega)) _ | refine KeepA.drop ?_ (by first | omega | (simp only [vz_push, vz_set, drop_size]; omega) | (have h9 := KeepA.size_le (by assumption); (try simp only [vz_push, vz_set, drop_size] at *); omega)) | refine KeepA.trans ?_ (by assumption))
    have j3 : ((s'.push (.own ⟨[.c (.int .i64 0), .c (.int .i64 0)], 28, 0, 0, false⟩)).set s'.size (.own ⟨[.c (.int .i64 x.1), .c (.int .i64 x.2)], 28, 0, 0, false⟩)).get b = some (.own ⟨[.c (.int .i64 x.1), .c (.int .i64 x.2)], 28, 0, 0, false⟩) := by rw [hb]; (simp -implicitDefEqProofs (disch := first | omega | (simp only [vz_push, vz_set, drop_size]; done) | (simp only [vz_push, vz_set, drop_size]; omega)) only [drop_ne, gp_ne, gp_eq, gs_ne, gs_eq])
    obtain ⟨S, hS⟩ : ∃ S, S = (s'.push (.own ⟨[.c (.int .i64 0), .c (.int .i64 0)], 28, 0, 0, false⟩)).set s'.size (.own ⟨[.c (.int .i64 x.1), .c (.int .i64 x.2)], 28, 0, 0, false⟩) := ⟨_, rfl⟩
    rw [← hS] at j1' j2' j3 ⊢
    rw [← hb]
    refine VW_iter (fun m ρ s' => ∃ q : Nat, m = ls.length - q ∧ q ≤ ls.length ∧ ρ.get 1 = .fptr [LI ls] 0 ∧ ρ.get 4 = v ∧ ρ.get 6 = .ptr ⟨b, 0, none⟩ ∧ ρ.get 9 = LS l ∧ ρ.get 10 = .c (.int .i64 l.length) ∧ ρ.get 11 = .c (.int .i64 j) ∧ ρ.get 15 = LI ls ∧ ρ.get 16 = .c (.int .i64 ls.length) ∧ ρ.get 17 = .c (.int .i64 q) ∧ (s' = S) ∧ (ls.take q = (ls.take q).filter (· ≠ x.2))) (ls.length) ⟨0, rfl, Nat.zero_le _, by (((try simp -implicitDefEqProofs only [eA_tmp, eA_const, AEnv.get_set, ofA_get, List.getD_cons_zero, List.getD_cons_succ, ↓reduceIte, reduceCtorEq, Nat.reduceEqDiff]); try (first | (with_reducible assumption) | (with_reducible rfl) | (congr 2 <;> omega) | rfl))), by (((try simp -implicitDefEqProofs only [eA_tmp, eA_const, AEnv.get_set, ofA_get, List.getD_cons_zero, List.getD_cons_succ, ↓reduceIte, reduceCtorEq, Nat.reduceEqDiff]); try (first | (with_reducible assumption) | (with_reducible rfl) | (congr 2 <;> omega) | rfl))), by (((try simp -implicitDefEqProofs only [eA_tmp, eA_const, AEnv.get_set, ofA_get, List.getD_cons_zero, List.getD_cons_succ, ↓reduceIte, reduceCtorEq, Nat.reduceEqDiff]); try (first | (with_reducible assumption) | (with_reducible rfl) | (congr 2 <;> omega) | rfl))), by (((try simp -implicitDefEqProofs only [eA_tmp, eA_const, AEnv.get_set, ofA_get, List.getD_cons_zero, List.getD_cons_succ, ↓reduceIte, reduceCtorEq, Nat.reduceEqDiff]); try (first | (with_reducible assumption) | (with_reducible rfl) | (congr 2 <;> omega) | rfl))), by (((try simp -implicitDefEqProofs only [eA_tmp, eA_const, AEnv.get_set, ofA_get, List.getD_cons_zero, List.getD_cons_succ, ↓reduceIte, reduceCtorEq, Nat.reduceEqDiff]); try (first | (with_reducible assumption) | (with_reducible rfl) | (congr 2 <;> omega) | rfl))), by (((try simp -implicitDefEqProofs only [eA_tmp, eA_const, AEnv.get_set, ofA_get, List.getD_cons_zero, List.getD_cons_succ, ↓reduceIte, reduceCtorEq, Nat.reduceEqDiff]); try (first | (with_reducible assumption) | (with_reducible rfl) | (congr 2 <;> omega) | rfl))), by (((try simp -implicitDefEqProofs only [eA_tmp, eA_const, AEnv.get_set, ofA_get, List.getD_cons_zero, List.getD_cons_succ, ↓reduceIte, reduceCtorEq, Nat.reduceEqDiff]); try (first | (with_reducible assumption) | (with_reducible rfl) | (congr 2 <;> omega) | rfl))), by (((try simp -implicitDefEqProofs only [eA_tmp, eA_const, AEnv.get_set, ofA_get, List.getD_cons_zero, List.getD_cons_succ, ↓reduceIte, reduceCtorEq, Nat.reduceEqDiff]); try (first | (with_reducible assumption) | (with_reducible rfl) | (congr 2 <;> omega) | rfl))), by (((try simp -implicitDefEqProofs only [eA_tmp, eA_const, AEnv.get_set, ofA_get, List.getD_cons_zero, List.getD_cons_succ, ↓reduceIte, reduceCtorEq, Nat.reduceEqDiff]); try (first | (with_reducible assumption) | (with_reducible rfl) | (congr 2 <;> omega) | rfl))), rfl, (by simp)⟩ ?_
    rintro m ρ s' ⟨q, rfl, hq, g1, g4, g6, g9, g10, g11, g15, g16, g17, j1, j2⟩
    subst j1
    simp -implicitDefEqProofs (maxSteps := 2000000) (disch := first | omega | (simp only [vz_push, vz_set, drop_size]; done) | (simp only [vz_push, vz_set, drop_size]; omega)) only [push_cast, seval, f86N0, f86N1, f86N2, f86N3, g16, g17]
    refine cd_dec (fun hc => ?_) (fun hc => ?_)
    · obtain ⟨y, hy⟩ : ∃ y, ls[q]? = some y := ⟨_, List.getElem?_eq_getElem (by omega)⟩
      by_cases hyx : x.2 = y
      · have hcon : ls.contains x.2 = true := by
          rw [List.contains_iff_mem, hyx]
          exact List.mem_of_getElem? hy
        rw [hcon, if_pos rfl] at hstep
        repeat' (first | ((first | apply ga_dec | apply ga_ndec | apply cd_dec | apply cd_ndec | apply gd_dec | apply gd_ndec | apply ga_split | apply cd_split | apply gd_split) <;> intro hc <;> (try (simp -implicitDefEqProofs (maxSteps := 2000000) (disch := first | omega | (simp only [vz_push, vz_set, drop_size]; done) | (simp only [vz_push, vz_set, drop_size]; omega)) only [push_cast, seval, f86N0, f86N1, f86N2, f86N3, hc, g4, g6, g9, g10, g11, g15, g17, hy, eI, j3, hyx])) <;> (try (exfalso; omega))) | (simp -implicitDefEqProofs (maxSteps := 2000000) (disch := first | omega | (simp only [vz_push, vz_set, drop_size]; done) | (simp only [vz_push, vz_set, drop_size]; omega)) only [push_cast, seval, f86N0, f86N1, f86N2, f86N3, g4, g6, g9, g10, g11, g15, g17, hy, eI, j3, hyx]))
        refine Gw.step (m := 1) (j1'.push _) (j2'.push _) rfl rfl rfl (room_ok (by constructor <;> (try dsimp only) <;> omega)) ?_
        intro v' s2 hg hbt hn hk'
        (try (simp -implicitDefEqProofs (maxSteps := 2000000) (disch := first | omega | (simp only [vz_push, vz_set, drop_size]; done) | (simp only [vz_push, vz_set, drop_size]; omega)) only [push_cast, seval, f86N0, f86N1, f86N2, f86N3, g1, g9, g10, g11])) <;> (repeat' ((first | apply ga_dec | apply ga_ndec | apply cd_dec | apply cd_ndec | apply gd_dec | apply gd_ndec | apply ga_split | apply cd_split | apply gd_split) <;> intro hc <;> try (simp -implicitDefEqProofs (maxSteps := 2000000) (disch := first | omega | (simp only [vz_push, vz_set, drop_size]; done) | (simp only [vz_push, vz_set, drop_size]; omega)) only [push_cast, seval, f86N0, f86N1, f86N2, f86N3, hc, g1, g9, g10, g11])))
        refine ⟨_ - (j + 1), by omega, j + 1, rfl, by omega, ?_⟩ <;> (try simp only [Int.natCast_add, Int.natCast_one, cast_lit, and_true, true_and, eq_self])
        rw [hstep]
        exact ⟨hg.cast (by simp) (by simp [eS, hyx]), hk'⟩
      · have hyx2 : (x.2 = y) = False := eq_false hyx
        repeat' (first | ((first | apply ga_dec | apply ga_ndec | apply cd_dec | apply cd_ndec | apply gd_dec | apply gd_ndec | apply ga_split | apply cd_split | apply gd_split) <;> intro hc <;> (try (simp -implicitDefEqProofs (maxSteps := 2000000) (disch := first | omega | (simp only [vz_push, vz_set, drop_size]; done) | (simp only [vz_push, vz_set, drop_size]; omega)) only [push_cast, seval, f86N0, f86N1, f86N2, f86N3, hc, g1, g4, g6, g9, g10, g11, g15, g16, g17, hy, eI, j3, hyx2])) <;> (try (exfalso; omega))) | (simp -implicitDefEqProofs (maxSteps := 2000000) (disch := first | omega | (simp only [vz_push, vz_set, drop_size]; done) | (simp only [vz_push, vz_set, drop_size]; omega)) only [push_cast, seval, f86N0, f86N1, f86N2, f86N3, g1, g4, g6, g9, g10, g11, g15, g16, g17, hy, eI, j3, hyx2]))
        refine ⟨_ - (q + 1), by omega, q + 1, rfl, by omega, ?_⟩ <;> (try simp only [Int.natCast_add, Int.natCast_one, cast_lit, and_true, true_and, eq_self])
        have hf : List.filter (fun z => !decide (z = x.2)) [y] = [y] := by
          rw [List.filter_cons, if_pos (by simp; omega)]
          rfl
        have j2b : List.filter (fun z => !decide (z = x.2)) (ls.take q) = ls.take q := by
          conv => rhs; rw [j2]
          congr 1
          funext z
          simp
        rw [take_snoc hy, List.filter_append, hf, j2b]
    · obtain rfl : q = ls.length := by omega
      rw [List.take_length] at j2
      have hcon : ls.contains x.2 = false := by
        cases hcc : ls.contains x.2 with
        | false => rfl
        | true =>
          rw [List.contains_iff_mem, j2, List.mem_filter] at hcc
          simp at hcc
      rw [hcon] at hstep
      repeat' (first | ((first | apply ga_dec | apply ga_ndec | apply cd_dec | apply cd_ndec | apply gd_dec | apply gd_ndec | apply ga_split | apply cd_split | apply gd_split) <;> intro hc <;> (try (simp -implicitDefEqProofs (maxSteps := 2000000) (disch := first | omega | (simp only [vz_push, vz_set, drop_size]; done) | (simp only [vz_push, vz_set, drop_size]; omega)) only [push_cast, seval, f86N0, f86N1, f86N2, f86N3, hc, g1, g4, g9, g10, g11])) <;> (try (exfalso; omega))) | (simp -implicitDefEqProofs (maxSteps := 2000000) (disch := first | omega | (simp only [vz_push, vz_set, drop_size]; done) | (simp only [vz_push, vz_set, drop_size]; omega)) only [push_cast, seval, f86N0, f86N1, f86N2, f86N3, g1, g4, g9, g10, g11]))
      refine ⟨_ - (j + 1), by omega, j + 1, rfl, by omega, ?_⟩ <;> (try simp only [Int.natCast_add, Int.natCast_one, cast_lit, and_true, true_and, eq_self])
      rw [hstep]
      exact ⟨j1'.cast (by simp) (by simp), j2'⟩
  · obtain rfl : j = l.length := by omega
    rw [List.take_length] at j1
    repeat' (first | ((first | apply ga_dec | apply ga_ndec | apply cd_dec | apply cd_ndec | apply gd_dec | apply gd_ndec | apply ga_split | apply cd_split | apply gd_split) <;> intro hc <;> (try (simp -implicitDefEqProofs (maxSteps := 2000000) (disch := first | omega | (simp only [vz_push, vz_set, drop_size]; done) | (simp only [vz_push, vz_set, drop_size]; omega)) only [push_cast, seval, f86N0, f86N1, f86N2, f86N3, hc, g4])) <;> (try (exfalso; omega))) | (simp -implicitDefEqProofs (maxSteps := 2000000) (disch := first | omega | (simp only [vz_push, vz_set, drop_size]; done) | (simp only [vz_push, vz_set, drop_size]; omega)) only [push_cast, seval, f86N0, f86N1, f86N2, f86N3, g4]))
    exact j1.outm j2 (fun _ => rfl) firm_eS (by omega)
theorem only_ok (ls : List Int) (l : List (Int × Int)) (hl : l.length < 1000000) (hls : ls.length < 1000000) : PC (XK k) 15 [LS l, LI ls] (LS (onlyL ls l)) := by
  refine PC_of fun s => ?_
  refine f15_in (hk _ (by decide)) ?_
  repeat' (first | ((first | apply ga_dec | apply ga_ndec | apply cd_dec | apply cd_ndec | apply gd_dec | apply gd_ndec | apply ga_split | apply cd_split | apply gd_split) <;> intro hc <;> (try (simp -implicitDefEqProofs (maxSteps := 2000000) (disch := first | omega | (simp only [vz_push, vz_set, drop_size]; done) | (simp only [vz_push, vz_set, drop_size]; omega)) only [push_cast, seval, f15N0, hc])) <;> (try (exfalso; omega))) | refine VC_pure (picker_ok hk ls) ?_ | refine VC_pure (picker1_ok hk ls l hl hls) ?_ | (simp -implicitDefEqProofs (maxSteps := 2000000) (disch := first | omega | (simp only [vz_push, vz_set, drop_size]; done) | (simp only [vz_push, vz_set, drop_size]; omega)) only [push_cast, seval, f15N0]))
  exact out_firm (by (repeat first | assumption | exact KeepA.refl _ | apply KeepA.push | refine KeepA.set ?_ (by first | omega | (simp only [vz_push, vz_set, drop_size]; omega) | (have h9 := KeepA.size_le (by assumption); (try simp only [vz_push, vz_set, drop_size] at *); omega)) _ | refine KeepA.drop ?_ (by first | omega | (simp only [vz_push, vz_set, drop_size]; omega) | (have h9 := KeepA.size_le (by assumption); (try simp only [vz_push, vz_set, drop_size] at *); omega)) | refine KeepA.trans ?_ (by assumption))) rfl (Firm.LS _)
theorem ends_ok (l : List (Int × Int)) (hl : l.length < 1000000) : PC (XK k) 16 [LS l] (LI (endsAt 0 l)) := by
  refine PC_of fun s => ?_
  refine f16_in (hk _ (by decide)) ?_
  (try (simp -implicitDefEqProofs (maxSteps := 2000000) (disch := first | omega | (simp only [vz_push, vz_set, drop_size]; done) | (simp only [vz_push, vz_set, drop_size]; omega)) only [push_cast, seval, f16N0, f16N1, f16N2])) <;> (repeat' ((first | apply ga_dec | apply ga_ndec | apply cd_dec | apply cd_ndec | apply gd_dec | apply gd_ndec | apply ga_split | apply cd_split | apply gd_split) <;> intro hc <;> try (simp -implicitDefEqProofs (maxSteps := 2000000) (disch := first | omega | (simp only [vz_push, vz_set, drop_size]; done) | (simp only [vz_push, vz_set, drop_size]; omega)) only [push_cast, seval, f16N0, f16N1, f16N2, hc])))
  refine VW_iter (fun m ρ s' => ∃ j : Nat, m = l.length - j ∧ j ≤ l.length ∧ ρ.get 6 = LS l ∧ ρ.get 7 = .c (.int .i64 l.length) ∧ ρ.get 8 = .c (.int .i64 j) ∧ (Gw s s' 3 1 (ρ.get 3) (endsAt 0 (l.take j)).length ((endsAt 0 (l.take j)).map (eI .i64)).flatten) ∧ (KeepA s s')) (l.length) ⟨0, rfl, Nat.zero_le _, by (((try simp -implicitDefEqProofs only [eA_tmp, eA_const, AEnv.get_set, ofA_get, List.getD_cons_zero, List.getD_cons_succ, ↓reduceIte, reduceCtorEq, Nat.reduceEqDiff]); try (first | (with_reducible assumption) | (with_reducible rfl) | (congr 2 <;> omega) | rfl))), by (((try simp -implicitDefEqProofs only [eA_tmp, eA_const, AEnv.get_set, ofA_get, List.getD_cons_zero, List.getD_cons_succ, ↓reduceIte, reduceCtorEq, Nat.reduceEqDiff]); try (first | (with_reducible assumption) | (with_reducible rfl) | (congr 2 <;> omega) | rfl))), by (((try simp -implicitDefEqProofs only [eA_tmp, eA_const, AEnv.get_set, ofA_get, List.getD_cons_zero, List.getD_cons_succ, ↓reduceIte, reduceCtorEq, Nat.reduceEqDiff]); try (first | (with_reducible assumption) | (with_reducible rfl) | (congr 2 <;> omega) | rfl))), (by (((try simp -implicitDefEqProofs only [eA_tmp, eA_const, AEnv.get_set, ofA_get, List.getD_cons_zero, List.getD_cons_succ, ↓reduceIte, reduceCtorEq, Nat.reduceEqDiff]); try (first | (with_reducible assumption) | (with_reducible rfl) | (congr 2 <;> omega) | rfl))); exact Gw.nil), by (repeat first | assumption | exact KeepA.refl _ | apply KeepA.push | refine KeepA.set ?_ (by first | omega | (simp only [vz_push, vz_set, drop_size]; omega) | (have h9 := KeepA.size_le (by assumption); (try simp only [vz_push, vz_set, drop_size] at *); omega)) _ | refine KeepA.drop ?_ (by first | omega | (simp only [vz_push, vz_set, drop_size]; omega) | (have h9 := KeepA.size_le (by assumption); (try simp only [vz_push, vz_set, drop_size] at *); omega)) | refine KeepA.trans ?_ (by assumption))⟩ ?_
  rintro m ρ s' ⟨j, rfl, hj, g6, g7, g8, j1, j2⟩
  obtain ⟨v, g3⟩ : ∃ v, ρ.get 3 = v := ⟨_, rfl⟩
  rw [g3] at j1
  simp -implicitDefEqProofs (maxSteps := 2000000) (disch := first | omega | (simp only [vz_push, vz_set, drop_size]; done) | (simp only [vz_push, vz_set, drop_size]; omega)) only [push_cast, seval, f16N0, f16N1, f16N2, g7, g8]
  refine cd_dec (fun hc => ?_) (fun hc => ?_)
  · obtain ⟨x, hx⟩ : ∃ x, l[j]? = some x := ⟨_, List.getElem?_eq_getElem (by omega)⟩
    have hstep := endsAt_snoc hx
    have hle := endsAt_le (l.take j) 0
    rw [List.length_take] at hle
    have hsz := j2.size_le
    have hnb : blkOf v ≠ some s'.size := fun hbb => by have := (j1.blk hbb).2; omega
    cases hq : endQ x
    · rw [hq] at hstep
      simp only [endQ, decide_eq_false_iff_not] at hq
      repeat' (first | ((first | apply ga_dec | apply ga_ndec | apply cd_dec | apply cd_ndec | apply gd_dec | apply gd_ndec | apply ga_split | apply cd_split | apply gd_split) <;> intro hc <;> (try (simp -implicitDefEqProofs (maxSteps := 2000000) (disch := first | omega | (simp only [vz_push, vz_set, drop_size]; done) | (simp only [vz_push, vz_set, drop_size]; omega)) only [push_cast, seval, f16N0, f16N1, f16N2, hc, g3, g6, g7, g8, hx, eS])) <;> (try (exfalso; omega))) | (simp -implicitDefEqProofs (maxSteps := 2000000) (disch := first | omega | (simp only [vz_push, vz_set, drop_size]; done) | (simp only [vz_push, vz_set, drop_size]; omega)) only [push_cast, seval, f16N0, f16N1, f16N2, g3, g6, g7, g8, hx, eS]))
      all_goals
        refine ⟨_ - (j + 1), by omega, j + 1, rfl, by omega, ?_⟩ <;> (try simp only [Int.natCast_add, Int.natCast_one, cast_lit, and_true, true_and, eq_self])
        rw [hstep]
        exact ⟨((j1.push _).set hnb _).cast (by simp) (by simp), by (repeat first | assumption | exact KeepA.refl _ | apply KeepA.push | refine KeepA.set ?_ (by first | omega | (simp only [vz_push, vz_set, drop_size]; omega) | (have h9 := KeepA.size_le (by assumption); (try simp only [vz_push, vz_set, drop_size] at *); omega)) _ | refine KeepA.drop ?_ (by first | omega | (simp only [vz_push, vz_set, drop_size]; omega) | (have h9 := KeepA.size_le (by assumption); (try simp only [vz_push, vz_set, drop_size] at *); omega)) | refine KeepA.trans ?_ (by assumption))⟩
    · rw [hq, if_pos rfl] at hstep
      simp only [endQ, decide_eq_true_eq] at hq
      repeat' (first | ((first | apply ga_dec | apply ga_ndec | apply cd_dec | apply cd_ndec | apply gd_dec | apply gd_ndec | apply ga_split | apply cd_split | apply gd_split) <;> intro hc <;> (try (simp -implicitDefEqProofs (maxSteps := 2000000) (disch := first | omega | (simp only [vz_push, vz_set, drop_size]; done) | (simp only [vz_push, vz_set, drop_size]; omega)) only [push_cast, seval, f16N0, f16N1, f16N2, hc, g3, g6, g7, g8, hx, eS])) <;> (try (exfalso; omega))) | (simp -implicitDefEqProofs (maxSteps := 2000000) (disch := first | omega | (simp only [vz_push, vz_set, drop_size]; done) | (simp only [vz_push, vz_set, drop_size]; omega)) only [push_cast, seval, f16N0, f16N1, f16N2, g3, g6, g7, g8, hx, eS]))
      all_goals
        refine Gw.step (m := 1) (((j1.push _).set hnb _).push _) (by (repeat first | assumption | exact KeepA.refl _ | apply KeepA.push | refine KeepA.set ?_ (by first | omega | (simp only [vz_push, vz_set, drop_size]; omega) | (have h9 := KeepA.size_le (by assumption); (try simp only [vz_push, vz_set, drop_size] at *); omega)) _ | refine KeepA.drop ?_ (by first | omega | (simp only [vz_push, vz_set, drop_size]; omega) | (have h9 := KeepA.size_le (by assumption); (try simp only [vz_push, vz_set, drop_size] at *); omega)) | refine KeepA.trans ?_ (by assumption))) rfl rfl rfl (room_ok (by constructor <;> (try dsimp only) <;> omega)) ?_
        intro v' s2 hg hbt hn hk'
        (try (simp -implicitDefEqProofs (maxSteps := 2000000) (disch := first | omega | (simp only [vz_push, vz_set, drop_size]; done) | (simp only [vz_push, vz_set, drop_size]; omega)) only [push_cast, seval, f16N0, f16N1, f16N2, g6, g7, g8])) <;> (repeat' ((first | apply ga_dec | apply ga_ndec | apply cd_dec | apply cd_ndec | apply gd_dec | apply gd_ndec | apply ga_split | apply cd_split | apply gd_split) <;> intro hc <;> try (simp -implicitDefEqProofs (maxSteps := 2000000) (disch := first | omega | (simp only [vz_push, vz_set, drop_size]; done) | (simp only [vz_push, vz_set, drop_size]; omega)) only [push_cast, seval, f16N0, f16N1, f16N2, hc, g6, g7, g8])))
        refine ⟨_ - (j + 1), by omega, j + 1, rfl, by omega, ?_⟩ <;> (try simp only [Int.natCast_add, Int.natCast_one, cast_lit, and_true, true_and, eq_self])
        rw [hstep]
        exact ⟨hg.cast (by simp) (by simp [eI]), hk'⟩
  · obtain rfl : j = l.length := by omega
    rw [List.take_length] at j1
    repeat' (first | ((first | apply ga_dec | apply ga_ndec | apply cd_dec | apply cd_ndec | apply gd_dec | apply gd_ndec | apply ga_split | apply cd_split | apply gd_split) <;> intro hc <;> (try (simp -implicitDefEqProofs (maxSteps := 2000000) (disch := first | omega | (simp only [vz_push, vz_set, drop_size]; done) | (simp only [vz_push, vz_set, drop_size]; omega)) only [push_cast, seval, f16N0, f16N1, f16N2, hc, g3])) <;> (try (exfalso; omega))) | (simp -implicitDefEqProofs (maxSteps := 2000000) (disch := first | omega | (simp only [vz_push, vz_set, drop_size]; done) | (simp only [vz_push, vz_set, drop_size]; omega)) only [push_cast, seval, f16N0, f16N1, f16N2, g3]))
    exact j1.outm j2 (fun _ => rfl) (firm_eI .i64) (by omega)
theorem taintOnly_ok (haw : k 14 [] = some (.bool true)) (l : List (Int × Int)) (ls : List Int) (s : VS) :
    VC (XK k) 3 [LS l, LI ls] s fun r _ => r = .c (.bool true) := by
  have haw' : ∀ {vs : VS} {Q : AV → VS → Prop}, Q (.c (.bool true)) vs → VC (XK k) 14 [] vs Q := fun h => VC_known (ws := []) (v := .bool true) haw rfl rfl h
  refine f3_in (hk _ (by decide)) ?_
  by_cases hab : l.length ≤ 100 ∧ ls.length ≤ 20
  · repeat' (first | ((first | apply ga_dec | apply ga_ndec | apply cd_dec | apply cd_ndec | apply gd_dec | apply gd_ndec | apply ga_split | apply cd_split | apply gd_split) <;> intro hc <;> (try (simp -implicitDefEqProofs (maxSteps := 2000000) (disch := first | omega | (simp only [vz_push, vz_set, drop_size]; done) | (simp only [vz_push, vz_set, drop_size]; omega)) only [push_cast, seval, f3N0, f3N1, f3N2, f3N3, f3N4, f3N5, f3N6, hc])) <;> (try (exfalso; omega))) | refine haw' ?_ | refine VC_pure (only_ok hk ls l (by omega) (by omega)) ?_ | refine VC_pure (ends_ok hk l (by omega)) ?_ | (simp -implicitDefEqProofs (maxSteps := 2000000) (disch := first | omega | (simp only [vz_push, vz_set, drop_size]; done) | (simp only [vz_push, vz_set, drop_size]; omega)) only [push_cast, seval, f3N0, f3N1, f3N2, f3N3, f3N4, f3N5, f3N6]))
    refine VW_iter (fun m ρ s' => ∃ j : Nat, m = l.length - j ∧ j ≤ l.length ∧ ρ.get 0 = LS l ∧ ρ.get 1 = LI ls ∧ ρ.get 5 = LS (onlyL ls l) ∧ ρ.get 6 = LI (endsAt 0 l) ∧ ρ.get 7 = .c (.int .i64 (onlyL ls (l.take j)).length) ∧ ρ.get 8 = .c (.int .i64 (endsAt 0 (l.take j)).length) ∧ ρ.get 9 = .c (.int .i64 j)) (l.length) ⟨0, rfl, Nat.zero_le _, by (((try simp -implicitDefEqProofs only [eA_tmp, eA_const, AEnv.get_set, ofA_get, List.getD_cons_zero, List.getD_cons_succ, ↓reduceIte, reduceCtorEq, Nat.reduceEqDiff]); try (first | (with_reducible assumption) | (with_reducible rfl) | (congr 2 <;> omega) | rfl))), by (((try simp -implicitDefEqProofs only [eA_tmp, eA_const, AEnv.get_set, ofA_get, List.getD_cons_zero, List.getD_cons_succ, ↓reduceIte, reduceCtorEq, Nat.reduceEqDiff]); try (first | (with_reducible assumption) | (with_reducible rfl) | (congr 2 <;> omega) | rfl))), by (((try simp -implicitDefEqProofs only [eA_tmp, eA_const, AEnv.get_set, ofA_get, List.getD_cons_zero, List.getD_cons_succ, ↓reduceIte, reduceCtorEq, Nat.reduceEqDiff]); try (first | (with_reducible assumption) | (with_reducible rfl) | (congr 2 <;> omega) | rfl))), by (((try simp -implicitDefEqProofs only [eA_tmp, eA_const, AEnv.get_set, ofA_get, List.getD_cons_zero, List.getD_cons_succ, ↓reduceIte, reduceCtorEq, Nat.reduceEqDiff]); try (first | (with_reducible assumption) | (with_reducible rfl) | (congr 2 <;> omega) | rfl))), by (((try simp -implicitDefEqProofs only [eA_tmp, eA_const, AEnv.get_set, ofA_get, List.getD_cons_zero, List.getD_cons_succ, ↓reduceIte, reduceCtorEq, Nat.reduceEqDiff]); try (first | (with_reducible assumption) | (with_reducible rfl) | (congr 2 <;> omega) | rfl))), by (((try simp -implicitDefEqProofs only [eA_tmp, eA_const, AEnv.get_set, ofA_get, List.getD_cons_zero, List.getD_cons_succ, ↓reduceIte, reduceCtorEq, Nat.reduceEqDiff]); try (first | (with_reducible assumption) | (with_reducible rfl) | (congr 2 <;> omega) | rfl))), by (((try simp -implicitDefEqProofs only [eA_tmp, eA_const, AEnv.get_set, ofA_get, List.getD_cons_zero, List.getD_cons_succ, ↓reduceIte, reduceCtorEq, Nat.reduceEqDiff]); try (first | (with_reducible assumption) | (with_reducible rfl) | (congr 2 <;> omega) | rfl)))⟩ ?_
    rintro m ρ s' ⟨j, rfl, hj, g0, g1, g5, g6, g7, g8, g9⟩
    simp -implicitDefEqProofs (maxSteps := 2000000) (disch := first | omega | (simp only [vz_push, vz_set, drop_size]; done) | (simp only [vz_push, vz_set, drop_size]; omega)) only [push_cast, seval, f3N0, f3N1, f3N2, f3N3, f3N4, f3N5, f3N6, g0, g9]
    refine cd_dec (fun hc => ?_) (fun hc => ?_)
    · obtain ⟨x, hx⟩ : ∃ x, l[j]? = some x := ⟨_, List.getElem?_eq_getElem (by omega)⟩
      repeat' (first | ((first | apply ga_dec | apply ga_ndec | apply cd_dec | apply cd_ndec | apply gd_dec | apply gd_ndec | apply ga_split | apply cd_split | apply gd_split) <;> intro hc <;> (try (simp -implicitDefEqProofs (maxSteps := 2000000) (disch := first | omega | (simp only [vz_push, vz_set, drop_size]; done) | (simp only [vz_push, vz_set, drop_size]; omega)) only [push_cast, seval, f3N0, f3N1, f3N2, f3N3, f3N4, f3N5, f3N6, hc, g0, g1, g5, g6, g7, g8, g9])) <;> (try (exfalso; omega))) | (simp -implicitDefEqProofs (maxSteps := 2000000) (disch := first | omega | (simp only [vz_push, vz_set, drop_size]; done) | (simp only [vz_push, vz_set, drop_size]; omega)) only [push_cast, seval, f3N0, f3N1, f3N2, f3N3, f3N4, f3N5, f3N6, g0, g1, g5, g6, g7, g8, g9]))
      refine VW_iter (fun m ρ s' => ∃ q : Nat, m = ls.length - q ∧ q ≤ ls.length ∧ ρ.get 0 = LS l ∧ ρ.get 1 = LI ls ∧ ρ.get 5 = LS (onlyL ls l) ∧ ρ.get 6 = LI (endsAt 0 l) ∧ ρ.get 7 = .c (.int .i64 (onlyL ls (l.take j)).length) ∧ ρ.get 8 = .c (.int .i64 (endsAt 0 (l.take j)).length) ∧ ρ.get 9 = .c (.int .i64 j) ∧ ρ.get 10 = .c (.bool ((ls.take q).contains x.2)) ∧ ρ.get 11 = .c (.int .i64 q)) (ls.length) ⟨0, rfl, Nat.zero_le _, by (((try simp -implicitDefEqProofs only [eA_tmp, eA_const, AEnv.get_set, ofA_get, List.getD_cons_zero, List.getD_cons_succ, ↓reduceIte, reduceCtorEq, Nat.reduceEqDiff]); try (first | (with_reducible assumption) | (with_reducible rfl) | (congr 2 <;> omega) | rfl))), by (((try simp -implicitDefEqProofs only [eA_tmp, eA_const, AEnv.get_set, ofA_get, List.getD_cons_zero, List.getD_cons_succ, ↓reduceIte, reduceCtorEq, Nat.reduceEqDiff]); try (first | (with_reducible assumption) | (with_reducible rfl) | (congr 2 <;> omega) | rfl))), by (((try simp -implicitDefEqProofs only [eA_tmp, eA_const, AEnv.get_set, ofA_get, List.getD_cons_zero, List.getD_cons_succ, ↓reduceIte, reduceCtorEq, Nat.reduceEqDiff]); try (first | (with_reducible assumption) | (with_reducible rfl) | (congr 2 <;> omega) | rfl))), by (((try simp -implicitDefEqProofs only [eA_tmp, eA_const, AEnv.get_set, ofA_get, List.getD_cons_zero, List.getD_cons_succ, ↓reduceIte, reduceCtorEq, Nat.reduceEqDiff]); try (first | (with_reducible assumption) | (with_reducible rfl) | (congr 2 <;> omega) | rfl))), by (((try simp -implicitDefEqProofs only [eA_tmp, eA_const, AEnv.get_set, ofA_get, List.getD_cons_zero, List.getD_cons_succ, ↓reduceIte, reduceCtorEq, Nat.reduceEqDiff]); try (first | (with_reducible assumption) | (with_reducible rfl) | (congr 2 <;> omega) | rfl))), by (((try simp -implicitDefEqProofs only [eA_tmp, eA_const, AEnv.get_set, ofA_get, List.getD_cons_zero, List.getD_cons_succ, ↓reduceIte, reduceCtorEq, Nat.reduceEqDiff]); try (first | (with_reducible assumption) | (with_reducible rfl) | (congr 2 <;> omega) | rfl))), by (((try simp -implicitDefEqProofs only [eA_tmp, eA_const, AEnv.get_set, ofA_get, List.getD_cons_zero, List.getD_cons_succ, ↓reduceIte, reduceCtorEq, Nat.reduceEqDiff]); try (first | (with_reducible assumption) | (with_reducible rfl) | (congr 2 <;> omega) | rfl))), by (((try simp -implicitDefEqProofs only [eA_tmp, eA_const, AEnv.get_set, ofA_get, List.getD_cons_zero, List.getD_cons_succ, ↓reduceIte, reduceCtorEq, Nat.reduceEqDiff]); try (first | (with_reducible assumption) | (with_reducible rfl) | (congr 2 <;> omega) | rfl))), by (((try simp -implicitDefEqProofs only [eA_tmp, eA_const, AEnv.get_set, ofA_get, List.getD_cons_zero, List.getD_cons_succ, ↓reduceIte, reduceCtorEq, Nat.reduceEqDiff]); try (first | (with_reducible assumption) | (with_reducible rfl) | (congr 2 <;> omega) | rfl)))⟩ ?_
      rintro m ρ s' ⟨q, rfl, hq, g0, g1, g5, g6, g7, g8, g9, g10, g11⟩
      simp -implicitDefEqProofs (maxSteps := 2000000) (disch := first | omega | (simp only [vz_push, vz_set, drop_size]; done) | (simp only [vz_push, vz_set, drop_size]; omega)) only [push_cast, seval, f3N0, f3N1, f3N2, f3N3, f3N4, f3N5, f3N6, g1, g11]
      refine cd_dec (fun hc => ?_) (fun hc => ?_)
      · obtain ⟨y, hy⟩ : ∃ y, ls[q]? = some y := ⟨_, List.getElem?_eq_getElem (by omega)⟩
        have hst : (ls.take (q + 1)).contains x.2 = ((ls.take q).contains x.2 || decide (y = x.2)) := by
          rw [take_snoc hy]
          simp [eq_comm]
        cases hcon : (ls.take q).contains x.2
        · rw [hcon] at g10 hst
          repeat' (first | ((first | apply ga_dec | apply ga_ndec | apply cd_dec | apply cd_ndec | apply gd_dec | apply gd_ndec | apply ga_split | apply cd_split | apply gd_split) <;> intro hc <;> (try (simp -implicitDefEqProofs (maxSteps := 2000000) (disch := first | omega | (simp only [vz_push, vz_set, drop_size]; done) | (simp only [vz_push, vz_set, drop_size]; omega)) only [push_cast, seval, f3N0, f3N1, f3N2, f3N3, f3N4, f3N5, f3N6, hc, g0, g1, g9, g10, g11, hx, hy, eI, eS])) <;> (try (exfalso; omega))) | (simp -implicitDefEqProofs (maxSteps := 2000000) (disch := first | omega | (simp only [vz_push, vz_set, drop_size]; done) | (simp only [vz_push, vz_set, drop_size]; omega)) only [push_cast, seval, f3N0, f3N1, f3N2, f3N3, f3N4, f3N5, f3N6, g0, g1, g9, g10, g11, hx, hy, eI, eS]))
          all_goals
            refine ⟨_ - (q + 1), by omega, q + 1, rfl, by omega, ?_⟩ <;> (try simp only [Int.natCast_add, Int.natCast_one, cast_lit, and_true, true_and, eq_self])
            rw [hst]
            exact ⟨g5, g6, g7, g8, rfl⟩
        · rw [hcon] at g10 hst
          repeat' (first | ((first | apply ga_dec | apply ga_ndec | apply cd_dec | apply cd_ndec | apply gd_dec | apply gd_ndec | apply ga_split | apply cd_split | apply gd_split) <;> intro hc <;> (try (simp -implicitDefEqProofs (maxSteps := 2000000) (disch := first | omega | (simp only [vz_push, vz_set, drop_size]; done) | (simp only [vz_push, vz_set, drop_size]; omega)) only [push_cast, seval, f3N0, f3N1, f3N2, f3N3, f3N4, f3N5, f3N6, hc, g0, g1, g9, g10, g11, hx, hy, eI, eS])) <;> (try (exfalso; omega))) | (simp -implicitDefEqProofs (maxSteps := 2000000) (disch := first | omega | (simp only [vz_push, vz_set, drop_size]; done) | (simp only [vz_push, vz_set, drop_size]; omega)) only [push_cast, seval, f3N0, f3N1, f3N2, f3N3, f3N4, f3N5, f3N6, g0, g1, g9, g10, g11, hx, hy, eI, eS]))
          all_goals
            refine ⟨_ - (q + 1), by omega, q + 1, rfl, by omega, ?_⟩ <;> (try simp only [Int.natCast_add, Int.natCast_one, cast_lit, and_true, true_and, eq_self])
            rw [hst]
            exact ⟨g5, g6, g7, g8, rfl⟩
      · obtain rfl : q = ls.length := by omega
        rw [List.take_length] at g10
        have hsp := onlyL_split (ls := ls) hx
        have hst : onlyL ls (l.take (j + 1)) = onlyL ls (l.take j) ++ if ls.contains x.2 then [x] else [] := by rw [take_snoc hx, onlyL_snoc]
        have hen := endsAt_snoc hx
        have hes := endsAt_split hx
        have hb1 := onlyL_le ls (l.take j)
        have hb2 := endsAt_le (l.take j) 0
        rw [List.length_take] at hb1 hb2
        have hget : ls.contains x.2 = true → (onlyL ls l)[(onlyL ls (l.take j)).length]? = some x := fun hcc => by
          rw [hsp, List.getElem?_append_right (Nat.le_refl _), Nat.sub_self, if_pos hcc]; rfl
        have hlt : ls.contains x.2 = true → (onlyL ls (l.take j)).length < (onlyL ls l).length := fun hcc => (List.getElem?_eq_some_iff.1 (hget hcc)).1
        have hge2 : endQ x = true → (endsAt 0 l)[(endsAt 0 (l.take j)).length]? = some (j : Int) := fun hcc => by
          rw [hes, List.getElem?_append_right (Nat.le_refl _), Nat.sub_self, if_pos hcc]; rfl
        have hlt2 : endQ x = true → (endsAt 0 (l.take j)).length < (endsAt 0 l).length := fun hcc => (List.getElem?_eq_some_iff.1 (hge2 hcc)).1
        cases hcon : ls.contains x.2
        · rw [hcon] at g10 hst
          cases hq : endQ x
          · rw [hq] at hen
            have hq2 := hq
            simp only [endQ, decide_eq_false_iff_not] at hq2
            repeat' (first | ((first | apply ga_dec | apply ga_ndec | apply cd_dec | apply cd_ndec | apply gd_dec | apply gd_ndec | apply ga_split | apply cd_split | apply gd_split) <;> intro hc <;> (try (simp -implicitDefEqProofs (maxSteps := 2000000) (disch := first | omega | (simp only [vz_push, vz_set, drop_size]; done) | (simp only [vz_push, vz_set, drop_size]; omega)) only [push_cast, seval, f3N0, f3N1, f3N2, f3N3, f3N4, f3N5, f3N6, hc, g0, g1, g5, g6, g7, g8, g9, g10, hx, eS])) <;> (try (exfalso; omega))) | (simp -implicitDefEqProofs (maxSteps := 2000000) (disch := first | omega | (simp only [vz_push, vz_set, drop_size]; done) | (simp only [vz_push, vz_set, drop_size]; omega)) only [push_cast, seval, f3N0, f3N1, f3N2, f3N3, f3N4, f3N5, f3N6, g0, g1, g5, g6, g7, g8, g9, g10, hx, eS]))
            all_goals
              refine ⟨_ - (j + 1), by omega, j + 1, rfl, by omega, ?_⟩ <;> (try simp only [Int.natCast_add, Int.natCast_one, cast_lit, and_true, true_and, eq_self])
              rw [hst, hen]
              simp
          · rw [hq] at hen
            have hq2 := hq
            simp only [endQ, decide_eq_true_eq] at hq2
            have h2 := hge2 hq
            have h3 := hlt2 hq
            repeat' (first | ((first | apply ga_dec | apply ga_ndec | apply cd_dec | apply cd_ndec | apply gd_dec | apply gd_ndec | apply ga_split | apply cd_split | apply gd_split) <;> intro hc <;> (try (simp -implicitDefEqProofs (maxSteps := 2000000) (disch := first | omega | (simp only [vz_push, vz_set, drop_size]; done) | (simp only [vz_push, vz_set, drop_size]; omega)) only [push_cast, seval, f3N0, f3N1, f3N2, f3N3, f3N4, f3N5, f3N6, hc, g0, g1, g5, g6, g7, g8, g9, g10, hx, eS, eI, h2])) <;> (try (exfalso; omega))) | (simp -implicitDefEqProofs (maxSteps := 2000000) (disch := first | omega | (simp only [vz_push, vz_set, drop_size]; done) | (simp only [vz_push, vz_set, drop_size]; omega)) only [push_cast, seval, f3N0, f3N1, f3N2, f3N3, f3N4, f3N5, f3N6, g0, g1, g5, g6, g7, g8, g9, g10, hx, eS, eI, h2]))
            all_goals
              refine ⟨_ - (j + 1), by omega, j + 1, rfl, by omega, ?_⟩ <;> (try simp only [Int.natCast_add, Int.natCast_one, cast_lit, and_true, true_and, eq_self])
              rw [hst, hen]
              simp
        · rw [hcon] at g10 hst
          have h4 := hget hcon
          have h5 := hlt hcon
          cases hq : endQ x
          · rw [hq] at hen
            have hq2 := hq
            simp only [endQ, decide_eq_false_iff_not] at hq2
            repeat' (first | ((first | apply ga_dec | apply ga_ndec | apply cd_dec | apply cd_ndec | apply gd_dec | apply gd_ndec | apply ga_split | apply cd_split | apply gd_split) <;> intro hc <;> (try (simp -implicitDefEqProofs (maxSteps := 2000000) (disch := first | omega | (simp only [vz_push, vz_set, drop_size]; done) | (simp only [vz_push, vz_set, drop_size]; omega)) only [push_cast, seval, f3N0, f3N1, f3N2, f3N3, f3N4, f3N5, f3N6, hc, g0, g1, g5, g6, g7, g8, g9, g10, hx, eS, h4])) <;> (try (exfalso; omega))) | (simp -implicitDefEqProofs (maxSteps := 2000000) (disch := first | omega | (simp only [vz_push, vz_set, drop_size]; done) | (simp only [vz_push, vz_set, drop_size]; omega)) only [push_cast, seval, f3N0, f3N1, f3N2, f3N3, f3N4, f3N5, f3N6, g0, g1, g5, g6, g7, g8, g9, g10, hx, eS, h4]))
            all_goals
              refine ⟨_ - (j + 1), by omega, j + 1, rfl, by omega, ?_⟩ <;> (try simp only [Int.natCast_add, Int.natCast_one, cast_lit, and_true, true_and, eq_self])
              rw [hst, hen]
              simp
          · rw [hq] at hen
            have hq2 := hq
            simp only [endQ, decide_eq_true_eq] at hq2
            have h2 := hge2 hq
            have h3 := hlt2 hq
            repeat' (first | ((first | apply ga_dec | apply ga_ndec | apply cd_dec | apply cd_ndec | apply gd_dec | apply gd_ndec | apply ga_split | apply cd_split | apply gd_split) <;> intro hc <;> (try (simp -implicitDefEqProofs (maxSteps := 2000000) (disch := first | omega | (simp only [vz_push, vz_set, drop_size]; done) | (simp only [vz_push, vz_set, drop_size]; omega)) only [push_cast, seval, f3N0, f3N1, f3N2, f3N3, f3N4, f3N5, f3N6, hc, g0, g1, g5, g6, g7, g8, g9, g10, hx, eS, eI, h2, h4])) <;> (try (exfalso; omega))) | (simp -implicitDefEqProofs (maxSteps := 2000000) (disch := first | omega | (simp only [vz_push, vz_set, drop_size]; done) | (simp only [vz_push, vz_set, drop_size]; omega)) only [push_cast, seval, f3N0, f3N1, f3N2, f3N3, f3N4, f3N5, f3N6, g0, g1, g5, g6, g7, g8, g9, g10, hx, eS, eI, h2, h4]))
            all_goals
              refine ⟨_ - (j + 1), by omega, j + 1, rfl, by omega, ?_⟩ <;> (try simp only [Int.natCast_add, Int.natCast_one, cast_lit, and_true, true_and, eq_self])
              rw [hst, hen]
              simp
    · obtain rfl : j = l.length := by omega
      rw [List.take_length] at g7 g8
      repeat' (first | ((first | apply ga_dec | apply ga_ndec | apply cd_dec | apply cd_ndec | apply gd_dec | apply gd_ndec | apply ga_split | apply cd_split | apply gd_split) <;> intro hc <;> (try (simp -implicitDefEqProofs (maxSteps := 2000000) (disch := first | omega | (simp only [vz_push, vz_set, drop_size]; done) | (simp only [vz_push, vz_set, drop_size]; omega)) only [push_cast, seval, f3N0, f3N1, f3N2, f3N3, f3N4, f3N5, f3N6, hc, g5, g6, g7, g8])) <;> (try (exfalso; omega))) | refine haw' ?_ | (simp -implicitDefEqProofs (maxSteps := 2000000) (disch := first | omega | (simp only [vz_push, vz_set, drop_size]; done) | (simp only [vz_push, vz_set, drop_size]; omega)) only [push_cast, seval, f3N0, f3N1, f3N2, f3N3, f3N4, f3N5, f3N6, g5, g6, g7, g8]))
  · repeat' (first | ((first | apply ga_dec | apply ga_ndec | apply cd_dec | apply cd_ndec | apply gd_dec | apply gd_ndec | apply ga_split | apply cd_split | apply gd_split) <;> intro hc <;> (try (simp -implicitDefEqProofs (maxSteps := 2000000) (disch := first | omega | (simp only [vz_push, vz_set, drop_size]; done) | (simp only [vz_push, vz_set, drop_size]; omega)) only [push_cast, seval, f3N0, f3N1, f3N2, f3N3, f3N4, f3N5, f3N6, hc])) <;> (try (exfalso; omega))) | refine haw' ?_ | (simp -implicitDefEqProofs (maxSteps := 2000000) (disch := first | omega | (simp only [vz_push, vz_set, drop_size]; done) | (simp only [vz_push, vz_set, drop_size]; omega)) only [push_cast, seval, f3N0, f3N1, f3N2, f3N3, f3N4, f3N5, f3N6]))
end
end Go.Proofs.YtpckldhojfjdmaaDoor.Ab
