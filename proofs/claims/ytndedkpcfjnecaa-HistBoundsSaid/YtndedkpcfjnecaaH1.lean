/- Histories: signs with a label; what begins with values; entries. -/
import Derived.Test.YtndedkpcfjnecaaO1
namespace Go.Proofs.Ytndedkpcfjnecaa.Ab
open Go.Proofs
set_option maxRecDepth 100000
set_option maxHeartbeats 4000000
set_option linter.unusedSimpArgs false
set_option linter.unusedVariables false
set_option linter.unnecessarySimpa false
set_option linter.unusedSectionVars false
/-- Some signs, turned by a rule; the others are not yet. -/
def part2 (f : Int × Int → Int × Int) (a : List (Int × Int)) (i : Nat) : List (Int × Int) := (a.take i).map f ++ List.replicate (a.length - i) (0, 0)
theorem part2_len (f : Int × Int → Int × Int) (a : List (Int × Int)) {i : Nat} (h : i ≤ a.length) : (part2 f a i).length = a.length := by
  unfold part2
  simp
  omega
theorem part2_at (f : Int × Int → Int × Int) {a : List (Int × Int)} {i : Nat} (h : i < a.length) : (part2 f a i)[i]? = some (0, 0) := by
  unfold part2
  rw [List.getElem?_append_right (by simp; omega), List.getElem?_replicate]
  simp
  omega
theorem part2_set (f : Int × Int → Int × Int) {a : List (Int × Int)} {i : Nat} {x : Int × Int} (h : a[i]? = some x) : (part2 f a i).set i (f x) = part2 f a (i + 1) := by
  have hi := (List.getElem?_eq_some_iff.1 h).1
  unfold part2
  rw [take_snoc h, List.map_append, show a.length - i = (a.length - (i + 1)) + 1 by omega, List.replicate_succ]
  rw [List.set_append_right _ _ (by simp; omega)]
  simp [Nat.min_eq_left (Nat.le_of_lt hi)]
theorem part2_all (f : Int × Int → Int × Int) (a : List (Int × Int)) : part2 f a a.length = a.map f := by
  unfold part2
  simp
/-- Does a list begin with these values? -/
def begB (l e : List (Int × Int)) : Bool := decide ((e.map Prod.fst).take l.length = l.map Prod.fst)
def begL (l e : List (Int × Int)) (i : Nat) : Bool := decide (((e.map Prod.fst).take l.length).drop i = (l.map Prod.fst).drop i)
theorem begL_step {l e : List (Int × Int)} {i : Nat} {x y : Int × Int} (hx : l[i]? = some x) (hy : e[i]? = some y) : begL l e i = if y.1 = x.1 then begL l e (i + 1) else false := by
  have h1 := (List.getElem?_eq_some_iff.1 hx).1
  have e1 : (l.map Prod.fst).drop i = x.1 :: (l.map Prod.fst).drop (i + 1) := drop_at (by rw [List.getElem?_map, hx]; rfl)
  have e2 : ((e.map Prod.fst).take l.length).drop i = y.1 :: ((e.map Prod.fst).take l.length).drop (i + 1) := drop_at (by rw [List.getElem?_take, if_pos h1, List.getElem?_map, hy]; rfl)
  unfold begL
  rw [e1, e2]
  split
  · rename_i h; rw [h]; simp
  · rename_i h; simp [h]
theorem part2_none (f : Int × Int → Int × Int) (a : List (Int × Int)) : some (VO.own ⟨(reps [Value.int .i64 0, .int .i64 0] a.length).map cv, 29, 0, 0, false⟩) = some (VO.own ⟨((part2 f a 0).map eS).flatten, 29, 0, 0, false⟩) := by
  have : ∀ n, (reps [Value.int .i64 0, .int .i64 0] n).map cv = ((List.replicate n ((0 : Int), (0 : Int))).map eS).flatten := fun n => by
    induction n with
    | zero => rfl
    | succ n ih => rw [List.replicate_succ, List.map_cons, List.flatten_cons, ← ih]; rfl
  rw [this]
  unfold part2
  simp
/-- A row of elements, handed over for reading; others may lie behind. -/
theorem se_rowX {α : Type} {f : α → List AV} {sz : Nat} (hz : ∀ x, (f x).length = sz) (hf : ∀ x, FirmR (f x)) {X : Prg} {P N : Nat → Prop} {s : VS} {b n cap e : Nat} {sp : Option Nat} {l : List α} {zs : List AV} (hg : s.get b = some (.own ⟨(l.map f).flatten ++ zs, e, sp.getD 0, 0, false⟩)) (hb : P b) (hn : n = l.length) (hc : n ≤ cap / 2) :
    Se X P N s (.sl ⟨b, 0, sp⟩ n cap) (.lst sz (l.map f)) := by
  subst hn
  have hfl : (l.map f).flatten.length = l.length * sz := by rw [flatten_len (all_map hz), List.length_map]
  refine Se.sl hg hb rfl ?_ hc (List.length_map _) (all_map hz) ?_
  · show 0 + l.length * sz ≤ ((l.map f).flatten ++ zs).length
    rw [List.length_append, hfl]; omega
  · show Ses X _ _ s ((((l.map f).flatten ++ zs).drop 0).take (l.length * sz)) _
    rw [List.drop_zero, List.take_left' hfl]
    exact Ses.firm (FirmR.flat (all_map hf))
theorem Gt.se {α : Type} {f : α → List AV} {s0 s : VS} {e sz : Nat} {v : AV} {l : List α} {X : Prg} {P N : Nat → Prop} (h : Gt f s0 s e sz v l) (hz : ∀ x, (f x).length = sz) (hf : ∀ x, FirmR (f x)) (hP : ∀ b, s0.size ≤ b → P b) : Se X P N s v (.lst sz (l.map f)) := by
  cases h with
  | nil => exact Se.nil _
  | row b sp n N l zs h1 h2 h3 h4 h5 => exact se_rowX hz hf h1 (hP b h2) h3 (by rw [capO_half]; exact h5)
section
variable {k : Nat → List Value → Option Value} (hk : ∀ f, f ≠ 69 → Open k f)
include hk
theorem with_ok (a : List (Int × Int)) (n : Int) (ha : a.length < 1000000) : PC (XK k) 58 [LS a, .c (.int .i64 n)] (LS (a.map (withL n))) := by
  refine PC_of fun s => ?_
  refine f58_in (hk _ (by decide)) ?_
  have hroom : (0 ≤ (a.length : Int) ∧ (a.length : Int) ≤ a.length ∧ roomOk a.length 16 = true) = True := eq_true ⟨by omega, by omega, (room_ok (by constructor <;> (try dsimp only) <;> omega))⟩
  (try (simp -implicitDefEqProofs (maxSteps := 2000000) (disch := first | omega | (simp only [vz_push, vz_set, drop_size]; first | done | omega)) only [push_cast, seval, f58N0, f58N1, hroom])) <;> (repeat' ((first | apply ga_dec | apply ga_ndec | apply cd_dec | apply cd_ndec | apply gd_dec | apply gd_ndec | apply ga_split | apply cd_split | apply gd_split) <;> intro hc <;> try (simp -implicitDefEqProofs (maxSteps := 2000000) (disch := first | omega | (simp only [vz_push, vz_set, drop_size]; first | done | omega)) only [push_cast, seval, f58N0, f58N1, hc, hroom])))
  refine VW_iter (fun m ρ s' => ∃ i : Nat, m = a.length - i ∧ i ≤ a.length ∧ ρ.get 0 = LS a ∧ ρ.get 1 = .c (.int .i64 n) ∧ ρ.get 5 = .sl ⟨s.size, 0, none⟩ a.length (capX a.length) ∧ ρ.get 11 = LS a ∧ ρ.get 12 = .c (.int .i64 a.length) ∧ ρ.get 13 = .c (.int .i64 i) ∧ (s'.get s.size = some (.own ⟨((part2 (withL n) a i).map eS).flatten, 29, 0, 0, false⟩)) ∧ (KeepA s s')) (a.length) ⟨0, rfl, Nat.zero_le _, by (((try simp -implicitDefEqProofs only [eA_tmp, eA_const, AEnv.get_set, ofA_get, List.getD_cons_zero, List.getD_cons_succ, ↓reduceIte, reduceCtorEq, Nat.reduceEqDiff]); try (first | (with_reducible assumption) | (with_reducible rfl) | (congr 2 <;> omega) | rfl))), by (((try simp -implicitDefEqProofs only [eA_tmp, eA_const, AEnv.get_set, ofA_get, List.getD_cons_zero, List.getD_cons_succ, ↓reduceIte, reduceCtorEq, Nat.reduceEqDiff]); try (first | (with_reducible assumption) | (with_reducible rfl) | (congr 2 <;> omega) | rfl))), by (((try simp -implicitDefEqProofs only [eA_tmp, eA_const, AEnv.get_set, ofA_get, List.getD_cons_zero, List.getD_cons_succ, ↓reduceIte, reduceCtorEq, Nat.reduceEqDiff]); try (first | (with_reducible assumption) | (with_reducible rfl) | (congr 2 <;> omega) | rfl))), by (((try simp -implicitDefEqProofs only [eA_tmp, eA_const, AEnv.get_set, ofA_get, List.getD_cons_zero, List.getD_cons_succ, ↓reduceIte, reduceCtorEq, Nat.reduceEqDiff]); try (first | (with_reducible assumption) | (with_reducible rfl) | (congr 2 <;> omega) | rfl))), by (((try simp -implicitDefEqProofs only [eA_tmp, eA_const, AEnv.get_set, ofA_get, List.getD_cons_zero, List.getD_cons_succ, ↓reduceIte, reduceCtorEq, Nat.reduceEqDiff]); try (first | (with_reducible assumption) | (with_reducible rfl) | (congr 2 <;> omega) | rfl))), by (((try simp -implicitDefEqProofs only [eA_tmp, eA_const, AEnv.get_set, ofA_get, List.getD_cons_zero, List.getD_cons_succ, ↓reduceIte, reduceCtorEq, Nat.reduceEqDiff]); try (first | (with_reducible assumption) | (with_reducible rfl) | (congr 2 <;> omega) | rfl))), (by rw [gp_eq rfl, part2_none]), by (repeat first | assumption | exact KeepA.refl _ | apply KeepA.push | refine KeepA.set ?_ (by first | omega | (simp only [vz_push, vz_set, drop_size]; omega) | (have h9 := KeepA.size_le (by assumption); (try simp only [vz_push, vz_set, drop_size] at *); omega)) _ | refine KeepA.drop ?_ (by first | omega | (simp only [vz_push, vz_set, drop_size]; omega) | (have h9 := KeepA.size_le (by assumption); (try simp only [vz_push, vz_set, drop_size] at *); omega)) | refine KeepA.trans ?_ (by assumption))⟩ ?_
  rintro m ρ s' ⟨i, rfl, hi, g0, g1, g5, g11, g12, g13, j1, j2⟩
  have z := VS.lt_of_get j1
  by_cases c1 : i < a.length
  · have hx := List.getElem?_eq_getElem c1
    generalize a[i] = x at hx
    have hl := flat_len_eS (part2 (withL n) a i)
    rw [part2_len _ _ hi] at hl
    have ho := flat_over0 (f := eS) (sz := 2) (fun _ => rfl) (part2_at (withL n) c1) (q := withL n x) [.c (.int .i64 x.1), .c (.int .i64 n)] rfl (Nat.le_refl 2)
    rw [part2_set _ hx] at ho
    (try (simp -implicitDefEqProofs (maxSteps := 2000000) (disch := first | omega | (simp only [vz_push, vz_set, drop_size]; first | done | omega)) only [push_cast, seval, f58N0, f58N1, g0, g1, g5, g11, g12, g13, j1, hx, eS, hl, z])) <;> (repeat' ((first | apply ga_dec | apply ga_ndec | apply cd_dec | apply cd_ndec | apply gd_dec | apply gd_ndec | apply ga_split | apply cd_split | apply gd_split) <;> intro hc <;> try (simp -implicitDefEqProofs (maxSteps := 2000000) (disch := first | omega | (simp only [vz_push, vz_set, drop_size]; first | done | omega)) only [push_cast, seval, f58N0, f58N1, hc, g0, g1, g5, g11, g12, g13, j1, hx, eS, hl, z])))
    all_goals (try (exfalso; omega))
    exact ⟨_ - (i + 1), by omega, i + 1, rfl, by omega, congrArg (fun z => AV.c (.int .i64 z)) (by omega), congrArg (fun z => VO.own ⟨z, 29, 0, 0, false⟩) ho, by (repeat first | assumption | exact KeepA.refl _ | apply KeepA.push | refine KeepA.set ?_ (by first | omega | (simp only [vz_push, vz_set, drop_size]; omega) | (have h9 := KeepA.size_le (by assumption); (try simp only [vz_push, vz_set, drop_size] at *); omega)) _ | refine KeepA.drop ?_ (by first | omega | (simp only [vz_push, vz_set, drop_size]; omega) | (have h9 := KeepA.size_le (by assumption); (try simp only [vz_push, vz_set, drop_size] at *); omega)) | refine KeepA.trans ?_ (by assumption))⟩
  · have hi2 : i = a.length := by omega
    subst hi2
    (try (simp -implicitDefEqProofs (maxSteps := 2000000) (disch := first | omega | (simp only [vz_push, vz_set, drop_size]; first | done | omega)) only [push_cast, seval, f58N0, f58N1, g0, g1, g5, g11, g12, g13])) <;> (repeat' ((first | apply ga_dec | apply ga_ndec | apply cd_dec | apply cd_ndec | apply gd_dec | apply gd_ndec | apply ga_split | apply cd_split | apply gd_split) <;> intro hc <;> try (simp -implicitDefEqProofs (maxSteps := 2000000) (disch := first | omega | (simp only [vz_push, vz_set, drop_size]; first | done | omega)) only [push_cast, seval, f58N0, f58N1, hc, g0, g1, g5, g11, g12, g13])))
    all_goals (try (exfalso; omega))
    rw [part2_all] at j1
    exact ⟨j2, se_rowX (zs := []) (f := eS) (fun _ => rfl) firm_eS (by rw [List.append_nil]; exact j1) (Nat.le_refl _) (List.length_map _).symm (by rw [capX_half]; omega)⟩
theorem beginner_ok (l : List (Int × Int)) : PC (XK k) 85 [LS l] (.fn 111 [] [.fptr [LS l] 0]) := by
  refine PC_of fun s => ?_
  refine f85_in (hk _ (by decide)) ?_
  (try (simp -implicitDefEqProofs (maxSteps := 2000000) (disch := first | omega | (simp only [vz_push, vz_set, drop_size]; first | done | omega)) only [push_cast, seval, f85N0])) <;> (repeat' ((first | apply ga_dec | apply ga_ndec | apply cd_dec | apply cd_ndec | apply gd_dec | apply gd_ndec | apply ga_split | apply cd_split | apply gd_split) <;> intro hc <;> try (simp -implicitDefEqProofs (maxSteps := 2000000) (disch := first | omega | (simp only [vz_push, vz_set, drop_size]; first | done | omega)) only [push_cast, seval, f85N0, hc])))
  refine ⟨by (repeat first | assumption | exact KeepA.refl _ | apply KeepA.push | refine KeepA.set ?_ (by first | omega | (simp only [vz_push, vz_set, drop_size]; omega) | (have h9 := KeepA.size_le (by assumption); (try simp only [vz_push, vz_set, drop_size] at *); omega)) _ | refine KeepA.drop ?_ (by first | omega | (simp only [vz_push, vz_set, drop_size]; omega) | (have h9 := KeepA.size_le (by assumption); (try simp only [vz_push, vz_set, drop_size] at *); omega)) | refine KeepA.trans ?_ (by assumption)), Se.fn Ses.nil (Ses.cons (Se.box (b := s.size) (e := 22) (by (simp -implicitDefEqProofs (disch := first | omega | (simp only [vz_push, vz_set, drop_size]; first | done | omega)) only [drop_ne, gp_ne, gp_eq, gs_ne, gs_eq])) (by omega) (Se.firm (Firm.LS _))) Ses.nil)⟩
theorem begins_ok (l e : List (Int × Int)) (hn : l.length < 1000000) : PC (XK k) 111 [LS e, .fptr [LS l] 0] (.c (.bool (begB l e))) := by
  refine PC_of fun s => ?_
  refine f111_in (hk _ (by decide)) ?_
  have hb0 : begB l e = begL l e 0 := rfl
  by_cases hl : e.length < l.length
  · have : begB l e = false := by
      unfold begB
      rw [decide_eq_false]
      intro h
      have := congrArg List.length h
      simp at this
      omega
    rw [this]
    (try (simp -implicitDefEqProofs (maxSteps := 2000000) (disch := first | omega | (simp only [vz_push, vz_set, drop_size]; first | done | omega)) only [push_cast, seval, f111N0, f111N1, f111N2])) <;> (repeat' ((first | apply ga_dec | apply ga_ndec | apply cd_dec | apply cd_ndec | apply gd_dec | apply gd_ndec | apply ga_split | apply cd_split | apply gd_split) <;> intro hc <;> try (simp -implicitDefEqProofs (maxSteps := 2000000) (disch := first | omega | (simp only [vz_push, vz_set, drop_size]; first | done | omega)) only [push_cast, seval, f111N0, f111N1, f111N2, hc])))
    all_goals first | (exfalso; omega) | exact out_bool (by (repeat first | assumption | exact KeepA.refl _ | apply KeepA.push | refine KeepA.set ?_ (by first | omega | (simp only [vz_push, vz_set, drop_size]; omega) | (have h9 := KeepA.size_le (by assumption); (try simp only [vz_push, vz_set, drop_size] at *); omega)) _ | refine KeepA.drop ?_ (by first | omega | (simp only [vz_push, vz_set, drop_size]; omega) | (have h9 := KeepA.size_le (by assumption); (try simp only [vz_push, vz_set, drop_size] at *); omega)) | refine KeepA.trans ?_ (by assumption))) rfl
  · (try (simp -implicitDefEqProofs (maxSteps := 2000000) (disch := first | omega | (simp only [vz_push, vz_set, drop_size]; first | done | omega)) only [push_cast, seval, f111N0, f111N1, f111N2])) <;> (repeat' ((first | apply ga_dec | apply ga_ndec | apply cd_dec | apply cd_ndec | apply gd_dec | apply gd_ndec | apply ga_split | apply cd_split | apply gd_split) <;> intro hc <;> try (simp -implicitDefEqProofs (maxSteps := 2000000) (disch := first | omega | (simp only [vz_push, vz_set, drop_size]; first | done | omega)) only [push_cast, seval, f111N0, f111N1, f111N2, hc])))
    all_goals (try (exfalso; omega))
    refine VW_iter (fun m ρ s' => ∃ i : Nat, m = l.length - i ∧ i ≤ l.length ∧ ρ.get 0 = LS e ∧ ρ.get 11 = LS l ∧ ρ.get 12 = .c (.int .i64 l.length) ∧ ρ.get 13 = .c (.int .i64 i) ∧ (begB l e = begL l e i) ∧ (KeepA s s')) (l.length) ⟨0, rfl, Nat.zero_le _, by (((try simp -implicitDefEqProofs only [eA_tmp, eA_const, AEnv.get_set, ofA_get, List.getD_cons_zero, List.getD_cons_succ, ↓reduceIte, reduceCtorEq, Nat.reduceEqDiff]); try (first | (with_reducible assumption) | (with_reducible rfl) | (congr 2 <;> omega) | rfl))), by (((try simp -implicitDefEqProofs only [eA_tmp, eA_const, AEnv.get_set, ofA_get, List.getD_cons_zero, List.getD_cons_succ, ↓reduceIte, reduceCtorEq, Nat.reduceEqDiff]); try (first | (with_reducible assumption) | (with_reducible rfl) | (congr 2 <;> omega) | rfl))), by (((try simp -implicitDefEqProofs only [eA_tmp, eA_const, AEnv.get_set, ofA_get, List.getD_cons_zero, List.getD_cons_succ, ↓reduceIte, reduceCtorEq, Nat.reduceEqDiff]); try (first | (with_reducible assumption) | (with_reducible rfl) | (congr 2 <;> omega) | rfl))), by (((try simp -implicitDefEqProofs only [eA_tmp, eA_const, AEnv.get_set, ofA_get, List.getD_cons_zero, List.getD_cons_succ, ↓reduceIte, reduceCtorEq, Nat.reduceEqDiff]); try (first | (with_reducible assumption) | (with_reducible rfl) | (congr 2 <;> omega) | rfl))), rfl, by (repeat first | assumption | exact KeepA.refl _ | apply KeepA.push | refine KeepA.set ?_ (by first | omega | (simp only [vz_push, vz_set, drop_size]; omega) | (have h9 := KeepA.size_le (by assumption); (try simp only [vz_push, vz_set, drop_size] at *); omega)) _ | refine KeepA.drop ?_ (by first | omega | (simp only [vz_push, vz_set, drop_size]; omega) | (have h9 := KeepA.size_le (by assumption); (try simp only [vz_push, vz_set, drop_size] at *); omega)) | refine KeepA.trans ?_ (by assumption))⟩ ?_
    rintro m ρ s' ⟨i, rfl, hi, g0, g11, g12, g13, j1, j2⟩
    by_cases c1 : i < l.length
    · have hx := List.getElem?_eq_getElem c1
      have hy := List.getElem?_eq_getElem (show i < e.length by omega)
      generalize l[i] = x at hx
      generalize e[i] = y at hy
      have hst := begL_step (l := l) (e := e) hx hy
      (try (simp -implicitDefEqProofs (maxSteps := 2000000) (disch := first | omega | (simp only [vz_push, vz_set, drop_size]; first | done | omega)) only [push_cast, seval, f111N0, f111N1, f111N2, g0, g11, g12, g13, hx, hy, eS])) <;> (repeat' ((first | apply ga_dec | apply ga_ndec | apply cd_dec | apply cd_ndec | apply gd_dec | apply gd_ndec | apply ga_split | apply cd_split | apply gd_split) <;> intro hc <;> try (simp -implicitDefEqProofs (maxSteps := 2000000) (disch := first | omega | (simp only [vz_push, vz_set, drop_size]; first | done | omega)) only [push_cast, seval, f111N0, f111N1, f111N2, hc, g0, g11, g12, g13, hx, hy, eS])))
      all_goals (try (exfalso; omega))
      · have hne : ¬ y.1 = x.1 := by omega
        refine out_bool (by (repeat first | assumption | exact KeepA.refl _ | apply KeepA.push | refine KeepA.set ?_ (by first | omega | (simp only [vz_push, vz_set, drop_size]; omega) | (have h9 := KeepA.size_le (by assumption); (try simp only [vz_push, vz_set, drop_size] at *); omega)) _ | refine KeepA.drop ?_ (by first | omega | (simp only [vz_push, vz_set, drop_size]; omega) | (have h9 := KeepA.size_le (by assumption); (try simp only [vz_push, vz_set, drop_size] at *); omega)) | refine KeepA.trans ?_ (by assumption))) ?_
        rw [j1, hst, if_neg hne]
      · have he : y.1 = x.1 := by omega
        rw [if_pos he] at hst
        exact ⟨_ - (i + 1), by omega, i + 1, rfl, by omega, congrArg (fun z => AV.c (.int .i64 z)) (by omega), j1.trans hst, by (repeat first | assumption | exact KeepA.refl _ | apply KeepA.push | refine KeepA.set ?_ (by first | omega | (simp only [vz_push, vz_set, drop_size]; omega) | (have h9 := KeepA.size_le (by assumption); (try simp only [vz_push, vz_set, drop_size] at *); omega)) _ | refine KeepA.drop ?_ (by first | omega | (simp only [vz_push, vz_set, drop_size]; omega) | (have h9 := KeepA.size_le (by assumption); (try simp only [vz_push, vz_set, drop_size] at *); omega)) | refine KeepA.trans ?_ (by assumption))⟩
    · have hi2 : i = l.length := by omega
      subst hi2
      (try (simp -implicitDefEqProofs (maxSteps := 2000000) (disch := first | omega | (simp only [vz_push, vz_set, drop_size]; first | done | omega)) only [push_cast, seval, f111N0, f111N1, f111N2, g0, g11, g12, g13])) <;> (repeat' ((first | apply ga_dec | apply ga_ndec | apply cd_dec | apply cd_ndec | apply gd_dec | apply gd_ndec | apply ga_split | apply cd_split | apply gd_split) <;> intro hc <;> try (simp -implicitDefEqProofs (maxSteps := 2000000) (disch := first | omega | (simp only [vz_push, vz_set, drop_size]; first | done | omega)) only [push_cast, seval, f111N0, f111N1, f111N2, hc, g0, g11, g12, g13])))
      all_goals (try (exfalso; omega))
      refine out_bool (by (repeat first | assumption | exact KeepA.refl _ | apply KeepA.push | refine KeepA.set ?_ (by first | omega | (simp only [vz_push, vz_set, drop_size]; omega) | (have h9 := KeepA.size_le (by assumption); (try simp only [vz_push, vz_set, drop_size] at *); omega)) _ | refine KeepA.drop ?_ (by first | omega | (simp only [vz_push, vz_set, drop_size]; omega) | (have h9 := KeepA.size_le (by assumption); (try simp only [vz_push, vz_set, drop_size] at *); omega)) | refine KeepA.trans ?_ (by assumption))) ?_
      rw [j1]
      unfold begL
      rw [decide_eq_true]
      rw [List.drop_eq_nil_of_le (by simp; omega), List.drop_eq_nil_of_le (by simp)]
/-- What an entry of the same values is told by. -/
theorem addDel_ok (l e : List (Int × Int)) (hn : l.length < 1000000) : PC (XK k) 87 [LS e, .fptr [LS l] 0, .fptr [.fn 111 [] [.fptr [LS l] 0]] 0] (.c (.bool (decide (e.map Prod.fst = l.map Prod.fst)))) := by
  refine PC_of fun s => ?_
  refine f87_in (hk _ (by decide)) ?_
  by_cases hl : e.length = l.length
  · repeat' (first | ((first | apply ga_dec | apply ga_ndec | apply cd_dec | apply cd_ndec | apply gd_dec | apply gd_ndec | apply ga_split | apply cd_split | apply gd_split) <;> intro hc <;> (try (simp -implicitDefEqProofs (maxSteps := 2000000) (disch := first | omega | (simp only [vz_push, vz_set, drop_size]; first | done | omega)) only [push_cast, seval, f87N0, hc, rigA])) <;> (try (exfalso; omega))) | refine VC_pure (begins_ok hk l e hn) ?_ | (simp -implicitDefEqProofs (maxSteps := 2000000) (disch := first | omega | (simp only [vz_push, vz_set, drop_size]; first | done | omega)) only [push_cast, seval, f87N0, rigA]))
    refine out_bool (by (repeat first | assumption | exact KeepA.refl _ | apply KeepA.push | refine KeepA.set ?_ (by first | omega | (simp only [vz_push, vz_set, drop_size]; omega) | (have h9 := KeepA.size_le (by assumption); (try simp only [vz_push, vz_set, drop_size] at *); omega)) _ | refine KeepA.drop ?_ (by first | omega | (simp only [vz_push, vz_set, drop_size]; omega) | (have h9 := KeepA.size_le (by assumption); (try simp only [vz_push, vz_set, drop_size] at *); omega)) | refine KeepA.trans ?_ (by assumption))) ?_
    unfold begB
    rw [List.take_of_length_le (by simp; omega)]
  · have h2 : decide (e.map Prod.fst = l.map Prod.fst) = false := decide_eq_false fun h => by
      have := congrArg List.length h
      simp at this
      omega
    rw [h2]
    (try (simp -implicitDefEqProofs (maxSteps := 2000000) (disch := first | omega | (simp only [vz_push, vz_set, drop_size]; first | done | omega)) only [push_cast, seval, f87N0, rigA])) <;> (repeat' ((first | apply ga_dec | apply ga_ndec | apply cd_dec | apply cd_ndec | apply gd_dec | apply gd_ndec | apply ga_split | apply cd_split | apply gd_split) <;> intro hc <;> try (simp -implicitDefEqProofs (maxSteps := 2000000) (disch := first | omega | (simp only [vz_push, vz_set, drop_size]; first | done | omega)) only [push_cast, seval, f87N0, hc, rigA])))
    all_goals first | (exfalso; omega) | exact out_bool (by (repeat first | assumption | exact KeepA.refl _ | apply KeepA.push | refine KeepA.set ?_ (by first | omega | (simp only [vz_push, vz_set, drop_size]; omega) | (have h9 := KeepA.size_le (by assumption); (try simp only [vz_push, vz_set, drop_size] at *); omega)) _ | refine KeepA.drop ?_ (by first | omega | (simp only [vz_push, vz_set, drop_size]; omega) | (have h9 := KeepA.size_le (by assumption); (try simp only [vz_push, vz_set, drop_size] at *); omega)) | refine KeepA.trans ?_ (by assumption))) rfl
end
end Go.Proofs.Ytndedkpcfjnecaa.Ab
