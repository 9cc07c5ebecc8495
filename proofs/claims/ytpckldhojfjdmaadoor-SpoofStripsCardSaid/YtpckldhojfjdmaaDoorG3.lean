/- Texts as values: the walks of utf.One and of the document's Decode. -/
import Derived.Test.YtpckldhojfjdmaaDoorG2
import Derived.Test.YtpckldhojfjdmaaDoorL1
import Derived.Test.YtpckldhojfjdmaaDoorDS
namespace Go.Proofs.YtpckldhojfjdmaaDoor.Ab
open Go.Proofs
set_option maxRecDepth 100000
set_option maxHeartbeats 4000000
set_option linter.unusedSimpArgs false
set_option linter.unusedVariables false
set_option linter.unnecessarySimpa false
set_option linter.unusedSectionVars false
theorem addB_rng : ∀ (m : List UInt8) (v : Int), m.length ≤ 3 → -1000 ≤ v → v ≤ 1000 → -300000000 ≤ m.foldl addB v ∧ m.foldl addB v ≤ 300000000 := by
  intro m v hm h1 h2
  rcases m with _ | ⟨a, _ | ⟨b, _ | ⟨c, _ | ⟨d, m⟩⟩⟩⟩
  · simp; omega
  · have := a.toNat_lt
    simp [addB]; omega
  · have := a.toNat_lt
    have := b.toNat_lt
    simp [addB]; omega
  · have := a.toNat_lt
    have := b.toNat_lt
    have := c.toNat_lt
    simp [addB]; omega
  · simp at hm
theorem szB_le (a : UInt8) : szB a ≤ 4 := by unfold szB; (repeat' split) <;> omega
section
variable {k : Nat → List Value → Option Value} (hk : ∀ f, f ≠ 95 → Open k f)
include hk
theorem rsize_ok (a : UInt8) : PC (XK k) 101 [.c (.int .u8 a.toNat)] (.c (.int .i64 (szB a))) := by
  refine PC_of fun s => ?_
  refine f101_in (hk _ (by decide)) ?_
  have ha := a.toNat_lt
  (try (simp -implicitDefEqProofs (maxSteps := 2000000) (disch := first | omega | (simp only [vz_push, vz_set, drop_size]; first | done | omega)) only [push_cast, seval, f101N0, f101N1, f101N2, f101N3])) <;> (repeat' ((first | apply ga_dec | apply ga_ndec | apply cd_dec | apply cd_ndec | apply gd_dec | apply gd_ndec | apply ga_split | apply cd_split | apply gd_split) <;> intro hc <;> try (simp -implicitDefEqProofs (maxSteps := 2000000) (disch := first | omega | (simp only [vz_push, vz_set, drop_size]; first | done | omega)) only [push_cast, seval, f101N0, f101N1, f101N2, f101N3, hc])))
  all_goals
    refine out_int (by (repeat first | assumption | exact KeepA.refl _ | apply KeepA.push | refine KeepA.set ?_ (by first | omega | (simp only [vz_push, vz_set, drop_size]; omega) | (have h9 := KeepA.size_le (by assumption); (try simp only [vz_push, vz_set, drop_size] at *); omega)) _ | refine KeepA.drop ?_ (by first | omega | (simp only [vz_push, vz_set, drop_size]; omega) | (have h9 := KeepA.size_le (by assumption); (try simp only [vz_push, vz_set, drop_size] at *); omega)) | refine KeepA.trans ?_ (by assumption))) ?_
    unfold szB
    (repeat' split) <;> omega
theorem rmay_ok (a c : UInt8) (i : Nat) (hi : i < 1000000) : PC (XK k) 116 [.c (.int .u8 a.toNat), .c (.int .u8 c.toNat), .c (.int .i64 i)] (.c (.bool (mayB a c i))) := by
  refine PC_of fun s => ?_
  refine f116_in (hk _ (by decide)) ?_
  have ha := a.toNat_lt
  have hc := c.toNat_lt
  (try (simp -implicitDefEqProofs (maxSteps := 2000000) (disch := first | omega | (simp only [vz_push, vz_set, drop_size]; first | done | omega)) only [push_cast, seval, f116N0, f116N1])) <;> (repeat' ((first | apply ga_dec | apply ga_ndec | apply cd_dec | apply cd_ndec | apply gd_dec | apply gd_ndec | apply ga_split | apply cd_split | apply gd_split) <;> intro hc <;> try (simp -implicitDefEqProofs (maxSteps := 2000000) (disch := first | omega | (simp only [vz_push, vz_set, drop_size]; first | done | omega)) only [push_cast, seval, f116N0, f116N1, hc])))
  all_goals
    refine out_bool (by (repeat first | assumption | exact KeepA.refl _ | apply KeepA.push | refine KeepA.set ?_ (by first | omega | (simp only [vz_push, vz_set, drop_size]; omega) | (have h9 := KeepA.size_le (by assumption); (try simp only [vz_push, vz_set, drop_size] at *); omega)) _ | refine KeepA.drop ?_ (by first | omega | (simp only [vz_push, vz_set, drop_size]; omega) | (have h9 := KeepA.size_le (by assumption); (try simp only [vz_push, vz_set, drop_size] at *); omega)) | refine KeepA.trans ?_ (by assumption))) ?_
    rw [Bool.eq_iff_iff, mayB_iff]
    simp
    omega
theorem rbegins_ok (a : UInt8) (l : List UInt8) (hl : l.length < 1000000) : PC (XK k) 100 [tx (a :: l)] (.c (.int .i64 (cntB a 1 l))) := by
  refine PC_of fun s => ?_
  refine f100_in (hk _ (by decide)) ?_
  have hsz := szB_le a
  (try (simp -implicitDefEqProofs (maxSteps := 2000000) (disch := first | omega | (simp only [vz_push, vz_set, drop_size]; first | done | omega)) only [push_cast, seval, f100N0, f100N1])) <;> (repeat' ((first | apply ga_dec | apply ga_ndec | apply cd_dec | apply cd_ndec | apply gd_dec | apply gd_ndec | apply ga_split | apply cd_split | apply gd_split) <;> intro hc <;> try (simp -implicitDefEqProofs (maxSteps := 2000000) (disch := first | omega | (simp only [vz_push, vz_set, drop_size]; first | done | omega)) only [push_cast, seval, f100N0, f100N1, hc])))
  refine VW_iter (fun m ρ s' => ∃ i : Nat, m = l.length - i ∧ i ≤ l.length ∧ ρ.get 0 = tx (a :: l) ∧ ρ.get 3 = .c (.int .i64 ((i : Int) + 1)) ∧ (cntB a 1 l = cntB a (i + 1) (l.drop i)) ∧ (s' = s)) (l.length) ⟨0, rfl, Nat.zero_le _, by (((try simp -implicitDefEqProofs only [eA_tmp, eA_const, AEnv.get_set, ofA_get, List.getD_cons_zero, List.getD_cons_succ, ↓reduceIte, reduceCtorEq, Nat.reduceEqDiff]); try (first | (with_reducible assumption) | (with_reducible rfl) | (congr 2 <;> omega) | rfl))), by (((try simp -implicitDefEqProofs only [eA_tmp, eA_const, AEnv.get_set, ofA_get, List.getD_cons_zero, List.getD_cons_succ, ↓reduceIte, reduceCtorEq, Nat.reduceEqDiff]); try (first | (with_reducible assumption) | (with_reducible rfl) | (congr 2 <;> omega) | rfl))), (by rw [List.drop_zero]), rfl⟩ ?_
  rintro m ρ s' ⟨i, rfl, hi, g0, g3, j1, j2⟩
  subst j2
  by_cases h1 : i + 1 < szB a
  · by_cases h2 : i < l.length
    · obtain ⟨x, hx⟩ : ∃ x, l[i]? = some x := ⟨_, List.getElem?_eq_getElem (by omega)⟩
      have hd : l.drop i = x :: l.drop (i + 1) := by
        rw [List.drop_eq_getElem_cons h2, (List.getElem?_eq_some_iff.1 hx).2]
      have hx1 : (a :: l)[i + 1]? = some x := by simpa using hx
      rw [hd, cntB] at j1
      cases hm : mayB a x (i + 1)
      · rw [if_neg (by simp [hm])] at j1
        repeat' (first | ((first | apply ga_dec | apply ga_ndec | apply cd_dec | apply cd_ndec | apply gd_dec | apply gd_ndec | apply ga_split | apply cd_split | apply gd_split) <;> intro hc <;> (try (simp -implicitDefEqProofs (maxSteps := 2000000) (disch := first | omega | (simp only [vz_push, vz_set, drop_size]; first | done | omega)) only [push_cast, seval, f100N0, f100N1, hc, g0, g3, hx1, hm])) <;> (try (exfalso; omega))) | refine VC_pure (rsize_ok hk a) ?_ | refine VC_pure (rmay_ok hk a x (i + 1) (by omega)) ?_ | (simp -implicitDefEqProofs (maxSteps := 2000000) (disch := first | omega | (simp only [vz_push, vz_set, drop_size]; first | done | omega)) only [push_cast, seval, f100N0, f100N1, g0, g3, hx1, hm]))
        exact out_int (by (repeat first | assumption | exact KeepA.refl _ | apply KeepA.push | refine KeepA.set ?_ (by first | omega | (simp only [vz_push, vz_set, drop_size]; omega) | (have h9 := KeepA.size_le (by assumption); (try simp only [vz_push, vz_set, drop_size] at *); omega)) _ | refine KeepA.drop ?_ (by first | omega | (simp only [vz_push, vz_set, drop_size]; omega) | (have h9 := KeepA.size_le (by assumption); (try simp only [vz_push, vz_set, drop_size] at *); omega)) | refine KeepA.trans ?_ (by assumption))) (by rw [j1]; simp)
      · rw [if_pos ⟨h1, hm⟩] at j1
        repeat' (first | ((first | apply ga_dec | apply ga_ndec | apply cd_dec | apply cd_ndec | apply gd_dec | apply gd_ndec | apply ga_split | apply cd_split | apply gd_split) <;> intro hc <;> (try (simp -implicitDefEqProofs (maxSteps := 2000000) (disch := first | omega | (simp only [vz_push, vz_set, drop_size]; first | done | omega)) only [push_cast, seval, f100N0, f100N1, hc, g0, g3, hx1, hm])) <;> (try (exfalso; omega))) | refine VC_pure (rsize_ok hk a) ?_ | refine VC_pure (rmay_ok hk a x (i + 1) (by omega)) ?_ | (simp -implicitDefEqProofs (maxSteps := 2000000) (disch := first | omega | (simp only [vz_push, vz_set, drop_size]; first | done | omega)) only [push_cast, seval, f100N0, f100N1, g0, g3, hx1, hm]))
        refine ⟨_ - (i + 1), by omega, i + 1, rfl, by omega, ?_⟩ <;> (try simp only [Int.natCast_add, Int.natCast_one, cast_lit, and_true, true_and, eq_self])
        exact j1
    · rw [List.drop_eq_nil_of_le (by omega), cntB] at j1
      repeat' (first | ((first | apply ga_dec | apply ga_ndec | apply cd_dec | apply cd_ndec | apply gd_dec | apply gd_ndec | apply ga_split | apply cd_split | apply gd_split) <;> intro hc <;> (try (simp -implicitDefEqProofs (maxSteps := 2000000) (disch := first | omega | (simp only [vz_push, vz_set, drop_size]; first | done | omega)) only [push_cast, seval, f100N0, f100N1, hc, g0, g3])) <;> (try (exfalso; omega))) | refine VC_pure (rsize_ok hk a) ?_ | (simp -implicitDefEqProofs (maxSteps := 2000000) (disch := first | omega | (simp only [vz_push, vz_set, drop_size]; first | done | omega)) only [push_cast, seval, f100N0, f100N1, g0, g3]))
      exact out_int (by (repeat first | assumption | exact KeepA.refl _ | apply KeepA.push | refine KeepA.set ?_ (by first | omega | (simp only [vz_push, vz_set, drop_size]; omega) | (have h9 := KeepA.size_le (by assumption); (try simp only [vz_push, vz_set, drop_size] at *); omega)) _ | refine KeepA.drop ?_ (by first | omega | (simp only [vz_push, vz_set, drop_size]; omega) | (have h9 := KeepA.size_le (by assumption); (try simp only [vz_push, vz_set, drop_size] at *); omega)) | refine KeepA.trans ?_ (by assumption))) (by rw [j1]; simp)
  · have hn : cntB a (i + 1) (l.drop i) = i + 1 := by
      cases l.drop i with
      | nil => rfl
      | cons x l => rw [cntB, if_neg (fun h => h1 h.1)]
    rw [hn] at j1
    repeat' (first | ((first | apply ga_dec | apply ga_ndec | apply cd_dec | apply cd_ndec | apply gd_dec | apply gd_ndec | apply ga_split | apply cd_split | apply gd_split) <;> intro hc <;> (try (simp -implicitDefEqProofs (maxSteps := 2000000) (disch := first | omega | (simp only [vz_push, vz_set, drop_size]; first | done | omega)) only [push_cast, seval, f100N0, f100N1, hc, g0, g3])) <;> (try (exfalso; omega))) | refine VC_pure (rsize_ok hk a) ?_ | (simp -implicitDefEqProofs (maxSteps := 2000000) (disch := first | omega | (simp only [vz_push, vz_set, drop_size]; first | done | omega)) only [push_cast, seval, f100N0, f100N1, g0, g3]))
    exact out_int (by (repeat first | assumption | exact KeepA.refl _ | apply KeepA.push | refine KeepA.set ?_ (by first | omega | (simp only [vz_push, vz_set, drop_size]; omega) | (have h9 := KeepA.size_le (by assumption); (try simp only [vz_push, vz_set, drop_size] at *); omega)) _ | refine KeepA.drop ?_ (by first | omega | (simp only [vz_push, vz_set, drop_size]; omega) | (have h9 := KeepA.size_le (by assumption); (try simp only [vz_push, vz_set, drop_size] at *); omega)) | refine KeepA.trans ?_ (by assumption))) (by rw [j1]; simp)
theorem rone_loop (a : UInt8) (l : List UInt8) (N : Nat) (v0 : Int) (hN : N ≤ 3) (hl : N ≤ l.length) (hl2 : l.length < 1000000) (hv : -1000 ≤ v0 ∧ v0 ≤ 1000) {ρ : AEnv} {s : VS} (g0 : ρ.get 0 = tx (a :: l)) (g4 : ρ.get 4 = .c (.int .i64 ((N : Int) + 1))) (g5 : ρ.get 5 = .c (.int .i64 v0)) (g6 : ρ.get 6 = .c (.int .i64 1))
    {Q : Xit → AEnv → VS → Prop} (hQ : ∀ ρ, ρ.get 4 = .c (.int .i64 ((N : Int) + 1)) → ρ.get 5 = .c (.int .i64 ((l.take N).foldl addB v0)) → Q (.exit 0) ρ s) : VW (XK k) (.loop f74c37) ρ s Q := by
  refine VW_iter (fun m ρ s' => ∃ i : Nat, m = N - i ∧ i ≤ N ∧ ρ.get 0 = tx (a :: l) ∧ ρ.get 4 = .c (.int .i64 ((N : Int) + 1)) ∧ ρ.get 5 = .c (.int .i64 ((l.take i).foldl addB v0)) ∧ ρ.get 6 = .c (.int .i64 ((i : Int) + 1)) ∧ (s' = s)) (N) ⟨0, rfl, Nat.zero_le _, by (((try simp -implicitDefEqProofs only [eA_tmp, eA_const, AEnv.get_set, ofA_get, List.getD_cons_zero, List.getD_cons_succ, ↓reduceIte, reduceCtorEq, Nat.reduceEqDiff]); try (first | (with_reducible assumption) | (with_reducible rfl) | (congr 2 <;> omega) | rfl))), by (((try simp -implicitDefEqProofs only [eA_tmp, eA_const, AEnv.get_set, ofA_get, List.getD_cons_zero, List.getD_cons_succ, ↓reduceIte, reduceCtorEq, Nat.reduceEqDiff]); try (first | (with_reducible assumption) | (with_reducible rfl) | (congr 2 <;> omega) | rfl))), by (((try simp -implicitDefEqProofs only [eA_tmp, eA_const, AEnv.get_set, ofA_get, List.getD_cons_zero, List.getD_cons_succ, ↓reduceIte, reduceCtorEq, Nat.reduceEqDiff]); try (first | (with_reducible assumption) | (with_reducible rfl) | (congr 2 <;> omega) | rfl))), by (((try simp -implicitDefEqProofs only [eA_tmp, eA_const, AEnv.get_set, ofA_get, List.getD_cons_zero, List.getD_cons_succ, ↓reduceIte, reduceCtorEq, Nat.reduceEqDiff]); try (first | (with_reducible assumption) | (with_reducible rfl) | (congr 2 <;> omega) | rfl))), rfl⟩ ?_
  rintro m ρ s' ⟨i, rfl, hi, g0, g4, g5, g6, j1⟩
  subst j1
  have hr := addB_rng (l.take i) v0 (by rw [List.length_take]; omega) hv.1 hv.2
  by_cases hc : i < N
  · obtain ⟨x, hx⟩ : ∃ x, l[i]? = some x := ⟨_, List.getElem?_eq_getElem (by omega)⟩
    have hx1 : (a :: l)[i + 1]? = some x := by simpa using hx
    have hxl := x.toNat_lt
    have hst : (l.take (i + 1)).foldl addB v0 = addB ((l.take i).foldl addB v0) x := by rw [take_snoc hx]; simp
    repeat' (first | ((first | apply ga_dec | apply ga_ndec | apply cd_dec | apply cd_ndec | apply gd_dec | apply gd_ndec | apply ga_split | apply cd_split | apply gd_split) <;> intro hc <;> (try (simp -implicitDefEqProofs (maxSteps := 2000000) (disch := first | omega | (simp only [vz_push, vz_set, drop_size]; first | done | omega)) only [push_cast, seval, f74N0, f74N1, f74N2, f74N3, f74N4, hc, g0, g4, g5, g6, hx1])) <;> (try (exfalso; omega))) | (simp -implicitDefEqProofs (maxSteps := 2000000) (disch := first | omega | (simp only [vz_push, vz_set, drop_size]; first | done | omega)) only [push_cast, seval, f74N0, f74N1, f74N2, f74N3, f74N4, g0, g4, g5, g6, hx1]))
    refine ⟨_ - (i + 1), by omega, i + 1, rfl, by omega, ?_⟩ <;> (try simp only [Int.natCast_add, Int.natCast_one, cast_lit, and_true, true_and, eq_self])
    rw [hst]
    rfl
  · obtain rfl : i = N := by omega
    repeat' (first | ((first | apply ga_dec | apply ga_ndec | apply cd_dec | apply cd_ndec | apply gd_dec | apply gd_ndec | apply ga_split | apply cd_split | apply gd_split) <;> intro hc <;> (try (simp -implicitDefEqProofs (maxSteps := 2000000) (disch := first | omega | (simp only [vz_push, vz_set, drop_size]; first | done | omega)) only [push_cast, seval, f74N0, f74N1, f74N2, f74N3, f74N4, hc, g0, g4, g5, g6])) <;> (try (exfalso; omega))) | (simp -implicitDefEqProofs (maxSteps := 2000000) (disch := first | omega | (simp only [vz_push, vz_set, drop_size]; first | done | omega)) only [push_cast, seval, f74N0, f74N1, f74N2, f74N3, f74N4, g0, g4, g5, g6]))
    exact hQ _ (by (((try simp -implicitDefEqProofs only [eA_tmp, eA_const, AEnv.get_set, ofA_get, List.getD_cons_zero, List.getD_cons_succ, ↓reduceIte, reduceCtorEq, Nat.reduceEqDiff]); try (first | (with_reducible assumption) | (with_reducible rfl) | (congr 2 <;> omega) | rfl)))) (by (((try simp -implicitDefEqProofs only [eA_tmp, eA_const, AEnv.get_set, ofA_get, List.getD_cons_zero, List.getD_cons_succ, ↓reduceIte, reduceCtorEq, Nat.reduceEqDiff]); try (first | (with_reducible assumption) | (with_reducible rfl) | (congr 2 <;> omega) | rfl))))
theorem rone_ok (a : UInt8) (l : List UInt8) (hl : l.length < 1000000) : PC (XK k) 74 [tx (a :: l)] (.tup [.c (.int .i64 (oneL (a :: l)).1), .c (.int .i64 (oneL (a :: l)).2)]) := by
  refine PC_of fun s => ?_
  refine f74_in (hk _ (by decide)) ?_
  have hsz := szB_le a
  have ha := a.toNat_lt
  have hcl := cntB_len a l 1
  have hcg := cntB_ge a l 1
  by_cases hc : cntB a 1 l = szB a
  · have ho : oneL (a :: l) = ((l.take (szB a - 1)).foldl addB ((a.toNat : Int) - subB (szB a)), szB a) := by rw [oneL_cons, if_pos hc]
    rw [ho]
    have hln : szB a - 1 ≤ l.length := by omega
    obtain ⟨n, hn⟩ : ∃ n, szB a = n := ⟨_, rfl⟩
    have hn4 : n = 1 ∨ n = 2 ∨ n = 3 ∨ n = 4 := by omega
    obtain ⟨v0, hv0⟩ : ∃ v0, (a.toNat : Int) - subB n = v0 := ⟨_, rfl⟩
    have hv0r : -1000 ≤ v0 ∧ v0 ≤ 1000 := by
      rcases hn4 with rfl | rfl | rfl | rfl <;> simp [subB] at hv0 <;> omega
    rw [hn] at hc hln
    rw [hn, hv0]
    rcases hn4 with rfl | rfl | rfl | rfl
    · repeat' (first | ((first | apply ga_dec | apply ga_ndec | apply cd_dec | apply cd_ndec | apply gd_dec | apply gd_ndec | apply ga_split | apply cd_split | apply gd_split) <;> intro hc <;> (try (simp -implicitDefEqProofs (maxSteps := 2000000) (disch := first | omega | (simp only [vz_push, vz_set, drop_size]; first | done | omega)) only [push_cast, seval, f74N0, f74N1, f74N2, f74N3, f74N4, hc, hc, hn])) <;> (try (exfalso; omega))) | refine VC_pure (rbegins_ok hk a l hl) ?_ | refine VC_pure (rsize_ok hk a) ?_ | (simp -implicitDefEqProofs (maxSteps := 2000000) (disch := first | omega | (simp only [vz_push, vz_set, drop_size]; first | done | omega)) only [push_cast, seval, f74N0, f74N1, f74N2, f74N3, f74N4, hc, hn]))
      refine rone_loop hk a l 0 (a.toNat) (by omega) (by omega) hl (by omega) (by (((try simp -implicitDefEqProofs only [eA_tmp, eA_const, AEnv.get_set, ofA_get, List.getD_cons_zero, List.getD_cons_succ, ↓reduceIte, reduceCtorEq, Nat.reduceEqDiff]); try (first | (with_reducible assumption) | (with_reducible rfl) | (congr 2 <;> omega) | rfl)))) (by (((try simp -implicitDefEqProofs only [eA_tmp, eA_const, AEnv.get_set, ofA_get, List.getD_cons_zero, List.getD_cons_succ, ↓reduceIte, reduceCtorEq, Nat.reduceEqDiff]); try (first | (with_reducible assumption) | (with_reducible rfl) | (congr 2 <;> omega) | rfl)))) (by (((try simp -implicitDefEqProofs only [eA_tmp, eA_const, AEnv.get_set, ofA_get, List.getD_cons_zero, List.getD_cons_succ, ↓reduceIte, reduceCtorEq, Nat.reduceEqDiff]); try (first | (with_reducible assumption) | (with_reducible rfl) | (congr 2 <;> omega) | rfl)))) (by (((try simp -implicitDefEqProofs only [eA_tmp, eA_const, AEnv.get_set, ofA_get, List.getD_cons_zero, List.getD_cons_succ, ↓reduceIte, reduceCtorEq, Nat.reduceEqDiff]); try (first | (with_reducible assumption) | (with_reducible rfl) | (congr 2 <;> omega) | rfl)))) ?_
      intro ρ g4 g5
      repeat' (first | ((first | apply ga_dec | apply ga_ndec | apply cd_dec | apply cd_ndec | apply gd_dec | apply gd_ndec | apply ga_split | apply cd_split | apply gd_split) <;> intro hc <;> (try (simp -implicitDefEqProofs (maxSteps := 2000000) (disch := first | omega | (simp only [vz_push, vz_set, drop_size]; first | done | omega)) only [push_cast, seval, f74N0, f74N1, f74N2, f74N3, f74N4, hc, g4, g5])) <;> (try (exfalso; omega))) | (simp -implicitDefEqProofs (maxSteps := 2000000) (disch := first | omega | (simp only [vz_push, vz_set, drop_size]; first | done | omega)) only [push_cast, seval, f74N0, f74N1, f74N2, f74N3, f74N4, g4, g5]))
      simp [subB] at hv0
      rw [← hv0]
      (refine ⟨by (repeat first | assumption | exact KeepA.refl _ | apply KeepA.push | refine KeepA.set ?_ (by first | omega | (simp only [vz_push, vz_set, drop_size]; omega) | (have h9 := KeepA.size_le (by assumption); (try simp only [vz_push, vz_set, drop_size] at *); omega)) _ | refine KeepA.drop ?_ (by first | omega | (simp only [vz_push, vz_set, drop_size]; omega) | (have h9 := KeepA.size_le (by assumption); (try simp only [vz_push, vz_set, drop_size] at *); omega)) | refine KeepA.trans ?_ (by assumption)), ?_⟩; (repeat' (first | exact Ses.nil | apply Ses.cons | exact Se.c _ | apply Se.ci | apply Se.cb | exact Se.firm (Firm.LS _) | exact Se.firm (Firm.LI _) | exact Se.nil _ | exact Se.emp _ | apply Se.agg | apply Se.tup | rfl | omega)))
    · repeat' (first | ((first | apply ga_dec | apply ga_ndec | apply cd_dec | apply cd_ndec | apply gd_dec | apply gd_ndec | apply ga_split | apply cd_split | apply gd_split) <;> intro hc <;> (try (simp -implicitDefEqProofs (maxSteps := 2000000) (disch := first | omega | (simp only [vz_push, vz_set, drop_size]; first | done | omega)) only [push_cast, seval, f74N0, f74N1, f74N2, f74N3, f74N4, hc, hc, hn])) <;> (try (exfalso; omega))) | refine VC_pure (rbegins_ok hk a l hl) ?_ | refine VC_pure (rsize_ok hk a) ?_ | (simp -implicitDefEqProofs (maxSteps := 2000000) (disch := first | omega | (simp only [vz_push, vz_set, drop_size]; first | done | omega)) only [push_cast, seval, f74N0, f74N1, f74N2, f74N3, f74N4, hc, hn]))
      refine rone_loop hk a l 1 ((a.toNat : Int) - 192) (by omega) (by omega) hl (by omega) (by (((try simp -implicitDefEqProofs only [eA_tmp, eA_const, AEnv.get_set, ofA_get, List.getD_cons_zero, List.getD_cons_succ, ↓reduceIte, reduceCtorEq, Nat.reduceEqDiff]); try (first | (with_reducible assumption) | (with_reducible rfl) | (congr 2 <;> omega) | rfl)))) (by (((try simp -implicitDefEqProofs only [eA_tmp, eA_const, AEnv.get_set, ofA_get, List.getD_cons_zero, List.getD_cons_succ, ↓reduceIte, reduceCtorEq, Nat.reduceEqDiff]); try (first | (with_reducible assumption) | (with_reducible rfl) | (congr 2 <;> omega) | rfl)))) (by (((try simp -implicitDefEqProofs only [eA_tmp, eA_const, AEnv.get_set, ofA_get, List.getD_cons_zero, List.getD_cons_succ, ↓reduceIte, reduceCtorEq, Nat.reduceEqDiff]); try (first | (with_reducible assumption) | (with_reducible rfl) | (congr 2 <;> omega) | rfl)))) (by (((try simp -implicitDefEqProofs only [eA_tmp, eA_const, AEnv.get_set, ofA_get, List.getD_cons_zero, List.getD_cons_succ, ↓reduceIte, reduceCtorEq, Nat.reduceEqDiff]); try (first | (with_reducible assumption) | (with_reducible rfl) | (congr 2 <;> omega) | rfl)))) ?_
      intro ρ g4 g5
      repeat' (first | ((first | apply ga_dec | apply ga_ndec | apply cd_dec | apply cd_ndec | apply gd_dec | apply gd_ndec | apply ga_split | apply cd_split | apply gd_split) <;> intro hc <;> (try (simp -implicitDefEqProofs (maxSteps := 2000000) (disch := first | omega | (simp only [vz_push, vz_set, drop_size]; first | done | omega)) only [push_cast, seval, f74N0, f74N1, f74N2, f74N3, f74N4, hc, g4, g5])) <;> (try (exfalso; omega))) | (simp -implicitDefEqProofs (maxSteps := 2000000) (disch := first | omega | (simp only [vz_push, vz_set, drop_size]; first | done | omega)) only [push_cast, seval, f74N0, f74N1, f74N2, f74N3, f74N4, g4, g5]))
      simp [subB] at hv0
      rw [← hv0]
      (refine ⟨by (repeat first | assumption | exact KeepA.refl _ | apply KeepA.push | refine KeepA.set ?_ (by first | omega | (simp only [vz_push, vz_set, drop_size]; omega) | (have h9 := KeepA.size_le (by assumption); (try simp only [vz_push, vz_set, drop_size] at *); omega)) _ | refine KeepA.drop ?_ (by first | omega | (simp only [vz_push, vz_set, drop_size]; omega) | (have h9 := KeepA.size_le (by assumption); (try simp only [vz_push, vz_set, drop_size] at *); omega)) | refine KeepA.trans ?_ (by assumption)), ?_⟩; (repeat' (first | exact Ses.nil | apply Ses.cons | exact Se.c _ | apply Se.ci | apply Se.cb | exact Se.firm (Firm.LS _) | exact Se.firm (Firm.LI _) | exact Se.nil _ | exact Se.emp _ | apply Se.agg | apply Se.tup | rfl | omega)))
    · repeat' (first | ((first | apply ga_dec | apply ga_ndec | apply cd_dec | apply cd_ndec | apply gd_dec | apply gd_ndec | apply ga_split | apply cd_split | apply gd_split) <;> intro hc <;> (try (simp -implicitDefEqProofs (maxSteps := 2000000) (disch := first | omega | (simp only [vz_push, vz_set, drop_size]; first | done | omega)) only [push_cast, seval, f74N0, f74N1, f74N2, f74N3, f74N4, hc, hc, hn])) <;> (try (exfalso; omega))) | refine VC_pure (rbegins_ok hk a l hl) ?_ | refine VC_pure (rsize_ok hk a) ?_ | (simp -implicitDefEqProofs (maxSteps := 2000000) (disch := first | omega | (simp only [vz_push, vz_set, drop_size]; first | done | omega)) only [push_cast, seval, f74N0, f74N1, f74N2, f74N3, f74N4, hc, hn]))
      refine rone_loop hk a l 2 ((a.toNat : Int) - 224) (by omega) (by omega) hl (by omega) (by (((try simp -implicitDefEqProofs only [eA_tmp, eA_const, AEnv.get_set, ofA_get, List.getD_cons_zero, List.getD_cons_succ, ↓reduceIte, reduceCtorEq, Nat.reduceEqDiff]); try (first | (with_reducible assumption) | (with_reducible rfl) | (congr 2 <;> omega) | rfl)))) (by (((try simp -implicitDefEqProofs only [eA_tmp, eA_const, AEnv.get_set, ofA_get, List.getD_cons_zero, List.getD_cons_succ, ↓reduceIte, reduceCtorEq, Nat.reduceEqDiff]); try (first | (with_reducible assumption) | (with_reducible rfl) | (congr 2 <;> omega) | rfl)))) (by (((try simp -implicitDefEqProofs only [eA_tmp, eA_const, AEnv.get_set, ofA_get, List.getD_cons_zero, List.getD_cons_succ, ↓reduceIte, reduceCtorEq, Nat.reduceEqDiff]); try (first | (with_reducible assumption) | (with_reducible rfl) | (congr 2 <;> omega) | rfl)))) (by (((try simp -implicitDefEqProofs only [eA_tmp, eA_const, AEnv.get_set, ofA_get, List.getD_cons_zero, List.getD_cons_succ, ↓reduceIte, reduceCtorEq, Nat.reduceEqDiff]); try (first | (with_reducible assumption) | (with_reducible rfl) | (congr 2 <;> omega) | rfl)))) ?_
      intro ρ g4 g5
      repeat' (first | ((first | apply ga_dec | apply ga_ndec | apply cd_dec | apply cd_ndec | apply gd_dec | apply gd_ndec | apply ga_split | apply cd_split | apply gd_split) <;> intro hc <;> (try (simp -implicitDefEqProofs (maxSteps := 2000000) (disch := first | omega | (simp only [vz_push, vz_set, drop_size]; first | done | omega)) only [push_cast, seval, f74N0, f74N1, f74N2, f74N3, f74N4, hc, g4, g5])) <;> (try (exfalso; omega))) | (simp -implicitDefEqProofs (maxSteps := 2000000) (disch := first | omega | (simp only [vz_push, vz_set, drop_size]; first | done | omega)) only [push_cast, seval, f74N0, f74N1, f74N2, f74N3, f74N4, g4, g5]))
      simp [subB] at hv0
      rw [← hv0]
      (refine ⟨by (repeat first | assumption | exact KeepA.refl _ | apply KeepA.push | refine KeepA.set ?_ (by first | omega | (simp only [vz_push, vz_set, drop_size]; omega) | (have h9 := KeepA.size_le (by assumption); (try simp only [vz_push, vz_set, drop_size] at *); omega)) _ | refine KeepA.drop ?_ (by first | omega | (simp only [vz_push, vz_set, drop_size]; omega) | (have h9 := KeepA.size_le (by assumption); (try simp only [vz_push, vz_set, drop_size] at *); omega)) | refine KeepA.trans ?_ (by assumption)), ?_⟩; (repeat' (first | exact Ses.nil | apply Ses.cons | exact Se.c _ | apply Se.ci | apply Se.cb | exact Se.firm (Firm.LS _) | exact Se.firm (Firm.LI _) | exact Se.nil _ | exact Se.emp _ | apply Se.agg | apply Se.tup | rfl | omega)))
    · repeat' (first | ((first | apply ga_dec | apply ga_ndec | apply cd_dec | apply cd_ndec | apply gd_dec | apply gd_ndec | apply ga_split | apply cd_split | apply gd_split) <;> intro hc <;> (try (simp -implicitDefEqProofs (maxSteps := 2000000) (disch := first | omega | (simp only [vz_push, vz_set, drop_size]; first | done | omega)) only [push_cast, seval, f74N0, f74N1, f74N2, f74N3, f74N4, hc, hc, hn])) <;> (try (exfalso; omega))) | refine VC_pure (rbegins_ok hk a l hl) ?_ | refine VC_pure (rsize_ok hk a) ?_ | (simp -implicitDefEqProofs (maxSteps := 2000000) (disch := first | omega | (simp only [vz_push, vz_set, drop_size]; first | done | omega)) only [push_cast, seval, f74N0, f74N1, f74N2, f74N3, f74N4, hc, hn]))
      refine rone_loop hk a l 3 ((a.toNat : Int) - 240) (by omega) (by omega) hl (by omega) (by (((try simp -implicitDefEqProofs only [eA_tmp, eA_const, AEnv.get_set, ofA_get, List.getD_cons_zero, List.getD_cons_succ, ↓reduceIte, reduceCtorEq, Nat.reduceEqDiff]); try (first | (with_reducible assumption) | (with_reducible rfl) | (congr 2 <;> omega) | rfl)))) (by (((try simp -implicitDefEqProofs only [eA_tmp, eA_const, AEnv.get_set, ofA_get, List.getD_cons_zero, List.getD_cons_succ, ↓reduceIte, reduceCtorEq, Nat.reduceEqDiff]); try (first | (with_reducible assumption) | (with_reducible rfl) | (congr 2 <;> omega) | rfl)))) (by (((try simp -implicitDefEqProofs only [eA_tmp, eA_const, AEnv.get_set, ofA_get, List.getD_cons_zero, List.getD_cons_succ, ↓reduceIte, reduceCtorEq, Nat.reduceEqDiff]); try (first | (with_reducible assumption) | (with_reducible rfl) | (congr 2 <;> omega) | rfl)))) (by (((try simp -implicitDefEqProofs only [eA_tmp, eA_const, AEnv.get_set, ofA_get, List.getD_cons_zero, List.getD_cons_succ, ↓reduceIte, reduceCtorEq, Nat.reduceEqDiff]); try (first | (with_reducible assumption) | (with_reducible rfl) | (congr 2 <;> omega) | rfl)))) ?_
      intro ρ g4 g5
      repeat' (first | ((first | apply ga_dec | apply ga_ndec | apply cd_dec | apply cd_ndec | apply gd_dec | apply gd_ndec | apply ga_split | apply cd_split | apply gd_split) <;> intro hc <;> (try (simp -implicitDefEqProofs (maxSteps := 2000000) (disch := first | omega | (simp only [vz_push, vz_set, drop_size]; first | done | omega)) only [push_cast, seval, f74N0, f74N1, f74N2, f74N3, f74N4, hc, g4, g5])) <;> (try (exfalso; omega))) | (simp -implicitDefEqProofs (maxSteps := 2000000) (disch := first | omega | (simp only [vz_push, vz_set, drop_size]; first | done | omega)) only [push_cast, seval, f74N0, f74N1, f74N2, f74N3, f74N4, g4, g5]))
      simp [subB] at hv0
      rw [← hv0]
      (refine ⟨by (repeat first | assumption | exact KeepA.refl _ | apply KeepA.push | refine KeepA.set ?_ (by first | omega | (simp only [vz_push, vz_set, drop_size]; omega) | (have h9 := KeepA.size_le (by assumption); (try simp only [vz_push, vz_set, drop_size] at *); omega)) _ | refine KeepA.drop ?_ (by first | omega | (simp only [vz_push, vz_set, drop_size]; omega) | (have h9 := KeepA.size_le (by assumption); (try simp only [vz_push, vz_set, drop_size] at *); omega)) | refine KeepA.trans ?_ (by assumption)), ?_⟩; (repeat' (first | exact Ses.nil | apply Ses.cons | exact Se.c _ | apply Se.ci | apply Se.cb | exact Se.firm (Firm.LS _) | exact Se.firm (Firm.LI _) | exact Se.nil _ | exact Se.emp _ | apply Se.agg | apply Se.tup | rfl | omega)))
  · have ho : oneL (a :: l) = (1114112 + (a.toNat : Int), 1) := by rw [oneL_cons, if_neg hc]
    rw [ho]
    repeat' (first | ((first | apply ga_dec | apply ga_ndec | apply cd_dec | apply cd_ndec | apply gd_dec | apply gd_ndec | apply ga_split | apply cd_split | apply gd_split) <;> intro hc <;> (try (simp -implicitDefEqProofs (maxSteps := 2000000) (disch := first | omega | (simp only [vz_push, vz_set, drop_size]; first | done | omega)) only [push_cast, seval, f74N0, f74N1, f74N2, f74N3, f74N4, hc])) <;> (try (exfalso; omega))) | refine VC_pure (rbegins_ok hk a l hl) ?_ | refine VC_pure (rsize_ok hk a) ?_ | (simp -implicitDefEqProofs (maxSteps := 2000000) (disch := first | omega | (simp only [vz_push, vz_set, drop_size]; first | done | omega)) only [push_cast, seval, f74N0, f74N1, f74N2, f74N3, f74N4]))
    (refine ⟨by (repeat first | assumption | exact KeepA.refl _ | apply KeepA.push | refine KeepA.set ?_ (by first | omega | (simp only [vz_push, vz_set, drop_size]; omega) | (have h9 := KeepA.size_le (by assumption); (try simp only [vz_push, vz_set, drop_size] at *); omega)) _ | refine KeepA.drop ?_ (by first | omega | (simp only [vz_push, vz_set, drop_size]; omega) | (have h9 := KeepA.size_le (by assumption); (try simp only [vz_push, vz_set, drop_size] at *); omega)) | refine KeepA.trans ?_ (by assumption)), ?_⟩; (repeat' (first | exact Ses.nil | apply Ses.cons | exact Se.c _ | apply Se.ci | apply Se.cb | exact Se.firm (Firm.LS _) | exact Se.firm (Firm.LI _) | exact Se.nil _ | exact Se.emp _ | apply Se.agg | apply Se.tup | rfl | omega)))
theorem rdecode_ok (l : List UInt8) (hl : l.length < 1000000) : PC (XK k) 34 [tx l] (LI (decL l)) := by
  refine PC_of fun s => ?_
  refine f34_in (hk _ (by decide)) ?_
  have hdl := decL_len l
  (try (simp -implicitDefEqProofs (maxSteps := 2000000) (disch := first | omega | (simp only [vz_push, vz_set, drop_size]; first | done | omega)) only [push_cast, seval, f34N0, f34N1])) <;> (repeat' ((first | apply ga_dec | apply ga_ndec | apply cd_dec | apply cd_ndec | apply gd_dec | apply gd_ndec | apply ga_split | apply cd_split | apply gd_split) <;> intro hc <;> try (simp -implicitDefEqProofs (maxSteps := 2000000) (disch := first | omega | (simp only [vz_push, vz_set, drop_size]; first | done | omega)) only [push_cast, seval, f34N0, f34N1, hc])))
  refine VW_iter (fun m ρ s' => ∃ (p : Nat) (d : List Int), m = l.length - p ∧ p ≤ l.length ∧ decL l = d ++ decL (l.drop p) ∧ ρ.get 0 = tx (l.drop p) ∧ Gw s s' 3 1 (ρ.get 3) d.length (d.map (eI .i64)).flatten ∧ KeepA s s') l.length ⟨0, [], rfl, Nat.zero_le _, by simp, by (((try simp -implicitDefEqProofs only [eA_tmp, eA_const, AEnv.get_set, ofA_get, List.getD_cons_zero, List.getD_cons_succ, ↓reduceIte, reduceCtorEq, Nat.reduceEqDiff]); try (first | (with_reducible assumption) | (with_reducible rfl) | (congr 2 <;> omega) | rfl))), by (((try simp -implicitDefEqProofs only [eA_tmp, eA_const, AEnv.get_set, ofA_get, List.getD_cons_zero, List.getD_cons_succ, ↓reduceIte, reduceCtorEq, Nat.reduceEqDiff]); try (first | (with_reducible assumption) | (with_reducible rfl) | (congr 2 <;> omega) | rfl))); exact Gw.nil, by (repeat first | assumption | exact KeepA.refl _ | apply KeepA.push | refine KeepA.set ?_ (by first | omega | (simp only [vz_push, vz_set, drop_size]; omega) | (have h9 := KeepA.size_le (by assumption); (try simp only [vz_push, vz_set, drop_size] at *); omega)) _ | refine KeepA.drop ?_ (by first | omega | (simp only [vz_push, vz_set, drop_size]; omega) | (have h9 := KeepA.size_le (by assumption); (try simp only [vz_push, vz_set, drop_size] at *); omega)) | refine KeepA.trans ?_ (by assumption))⟩ ?_
  rintro m ρ s' ⟨p, d, rfl, hp, hd, g0, j1, j2⟩
  obtain ⟨v, g3⟩ : ∃ v, ρ.get 3 = v := ⟨_, rfl⟩
  rw [g3] at j1
  have hdd := congrArg List.length hd
  rw [List.length_append] at hdd
  obtain ⟨x, hx⟩ : ∃ x, l.drop p = x := ⟨_, rfl⟩
  have hxl : x.length = l.length - p := by rw [← hx, List.length_drop]
  rw [hx] at g0 hd
  cases x with
  | nil =>
    simp only [List.length_nil] at hxl
    rw [decL_nil, List.append_nil] at hd
    repeat' (first | ((first | apply ga_dec | apply ga_ndec | apply cd_dec | apply cd_ndec | apply gd_dec | apply gd_ndec | apply ga_split | apply cd_split | apply gd_split) <;> intro hc <;> (try (simp -implicitDefEqProofs (maxSteps := 2000000) (disch := first | omega | (simp only [vz_push, vz_set, drop_size]; first | done | omega)) only [push_cast, seval, f34N0, f34N1, hc, g0, g3])) <;> (try (exfalso; omega))) | (simp -implicitDefEqProofs (maxSteps := 2000000) (disch := first | omega | (simp only [vz_push, vz_set, drop_size]; first | done | omega)) only [push_cast, seval, f34N0, f34N1, g0, g3]))
    rw [hd]
    exact j1.outm j2 (fun _ => rfl) (firm_eI .i64) (by omega)
  | cons a r =>
    have hos := oneL_pos a r
    rw [decL_cons (s := a :: r) (by simp)] at hd
    simp only [List.length_cons] at hxl
    have ho := rone_ok hk a r (by omega)
    have hdr : List.drop ((oneL (a :: r)).2) (a :: r) = l.drop (p + (oneL (a :: r)).2) := by rw [← hx, List.drop_drop]
    rw [hdr] at hd
    have htk : List.take (r.length + 1) (a :: r) = a :: r := List.take_of_length_le (by simp)
    generalize (oneL (a :: r)).1 = v1 at *
    generalize (oneL (a :: r)).2 = n1 at *
    repeat' (first | ((first | apply ga_dec | apply ga_ndec | apply cd_dec | apply cd_ndec | apply gd_dec | apply gd_ndec | apply ga_split | apply cd_split | apply gd_split) <;> intro hc <;> (try (simp -implicitDefEqProofs (maxSteps := 2000000) (disch := first | omega | (simp only [vz_push, vz_set, drop_size]; first | done | omega)) only [push_cast, seval, f34N0, f34N1, hc, g0, g3])) <;> (try (exfalso; omega))) | refine VC_pure (ho) ?_ | (simp -implicitDefEqProofs (maxSteps := 2000000) (disch := first | omega | (simp only [vz_push, vz_set, drop_size]; first | done | omega)) only [push_cast, seval, f34N0, f34N1, g0, g3]))
    refine Gw.step (m := 1) (j1.push _) (j2.push _) rfl rfl rfl (room_ok (by constructor <;> (try dsimp only) <;> omega)) ?_
    intro v' s2 hg hbt hn hk'
    (try (simp -implicitDefEqProofs (maxSteps := 2000000) (disch := first | omega | (simp only [vz_push, vz_set, drop_size]; first | done | omega)) only [push_cast, seval, f34N0, f34N1, g0, htk])) <;> (repeat' ((first | apply ga_dec | apply ga_ndec | apply cd_dec | apply cd_ndec | apply gd_dec | apply gd_ndec | apply ga_split | apply cd_split | apply gd_split) <;> intro hc <;> try (simp -implicitDefEqProofs (maxSteps := 2000000) (disch := first | omega | (simp only [vz_push, vz_set, drop_size]; first | done | omega)) only [push_cast, seval, f34N0, f34N1, hc, g0, htk])))
    refine ⟨_, by omega, p + n1, d ++ [v1], rfl, by omega, by rw [hd]; simp, ?_, hg.cast (by simp) (by simp [eI]), hk'⟩
    rw [hdr]
theorem hasPrefix_ok (a b : List UInt8) (ha : a.length < 1000000000) (hb : b.length < 1000000000) : PC (XK k) 111 [tx a, tx b] (.c (.bool (decide (a.take b.length = b)))) := by
  refine PC_of fun s => ?_
  refine f111_in (hk _ (by decide)) ?_
  (try (simp -implicitDefEqProofs (maxSteps := 2000000) (disch := first | omega | (simp only [vz_push, vz_set, drop_size]; first | done | omega)) only [push_cast, seval, f111N0])) <;> (repeat' ((first | apply ga_dec | apply ga_ndec | apply cd_dec | apply cd_ndec | apply gd_dec | apply gd_ndec | apply ga_split | apply cd_split | apply gd_split) <;> intro hc <;> try (simp -implicitDefEqProofs (maxSteps := 2000000) (disch := first | omega | (simp only [vz_push, vz_set, drop_size]; first | done | omega)) only [push_cast, seval, f111N0, hc])))
  refine f120_in (hk _ (by decide)) ?_
  (try (simp -implicitDefEqProofs (maxSteps := 2000000) (disch := first | omega | (simp only [vz_push, vz_set, drop_size]; first | done | omega)) only [push_cast, seval, f120N0, f111N0])) <;> (repeat' ((first | apply ga_dec | apply ga_ndec | apply cd_dec | apply cd_ndec | apply gd_dec | apply gd_ndec | apply ga_split | apply cd_split | apply gd_split) <;> intro hc <;> try (simp -implicitDefEqProofs (maxSteps := 2000000) (disch := first | omega | (simp only [vz_push, vz_set, drop_size]; first | done | omega)) only [push_cast, seval, f120N0, f111N0, hc])))
  all_goals refine out_bool (by (repeat first | assumption | exact KeepA.refl _ | apply KeepA.push | refine KeepA.set ?_ (by first | omega | (simp only [vz_push, vz_set, drop_size]; omega) | (have h9 := KeepA.size_le (by assumption); (try simp only [vz_push, vz_set, drop_size] at *); omega)) _ | refine KeepA.drop ?_ (by first | omega | (simp only [vz_push, vz_set, drop_size]; omega) | (have h9 := KeepA.size_le (by assumption); (try simp only [vz_push, vz_set, drop_size] at *); omega)) | refine KeepA.trans ?_ (by assumption))) ?_
  all_goals rw [Bool.eq_iff_iff]
  · simp
  · have : ¬ a.take b.length = b := fun e => by
      have := congrArg List.length e
      rw [List.length_take] at this
      omega
    simp [this]
omit hk in
theorem wrong_enc : encV 65533 = [239, 191, 189] := by
  unfold encV
  rw [if_neg (by omega), if_neg (by omega), if_pos (by omega)]
  rfl
omit hk in
theorem oneL_wrong {s : List UInt8} (h : s ≠ []) : s.take 3 = [239, 191, 189] ↔ (oneL s).1 = 65533 := by
  have hw : oneL (encV 65533 ++ s.drop 3) = (65533, 3) := by rw [oneL_enc (by omega) (by omega) (by omega), wrong_enc]; rfl
  constructor
  · intro h3
    have : s = encV 65533 ++ s.drop 3 := by
      rw [wrong_enc, ← h3, List.take_append_drop]
    rw [this, hw]
  · intro h3
    rcases oneL_cases s h with ⟨v, r, h0, h1, h2, hs, ho⟩ | ⟨a, r, hs, ha, hc, ho⟩
    · rw [ho] at h3
      simp only at h3
      subst h3
      rw [hs, wrong_enc]
      rfl
    · rw [ho] at h3
      simp only at h3
      have := a.toNat_lt
      omega
theorem value_ok (s : List UInt8) (h : s ≠ []) (hl : s.length < 1000000000) : PC (XK k) 113 [tx s, .c (.int .i32 (runeOf (oneL s).1))] (.c (.int .i64 (oneL s).1)) := by
  refine PC_of fun st => ?_
  refine f113_in (hk _ (by decide)) ?_
  have hw := oneL_wrong h
  rcases oneL_cases s h with ⟨v, r, h0, h1, h2, hs, ho⟩ | ⟨a, r, hs, ha, hc, ho⟩
  · rw [ho] at hw ⊢
    have hr : runeOf v = v := by unfold runeOf; rw [if_neg (by omega)]
    simp only [hr]
    by_cases hv : v = 65533
    · have h3 : (s.take 3 = [239, 191, 189]) = True := eq_true (hw.2 hv)
      subst hv
      repeat' (first | ((first | apply ga_dec | apply ga_ndec | apply cd_dec | apply cd_ndec | apply gd_dec | apply gd_ndec | apply ga_split | apply cd_split | apply gd_split) <;> intro hc <;> (try (simp -implicitDefEqProofs (maxSteps := 2000000) (disch := first | omega | (simp only [vz_push, vz_set, drop_size]; first | done | omega)) only [push_cast, seval, f113N0, f113N1, hc, h3])) <;> (try (exfalso; omega))) | refine VC_pure (hasPrefix_ok hk s [239, 191, 189] hl (by simp)) ?_ | (simp -implicitDefEqProofs (maxSteps := 2000000) (disch := first | omega | (simp only [vz_push, vz_set, drop_size]; first | done | omega)) only [push_cast, seval, f113N0, f113N1, h3]))
      exact out_int (by (repeat first | assumption | exact KeepA.refl _ | apply KeepA.push | refine KeepA.set ?_ (by first | omega | (simp only [vz_push, vz_set, drop_size]; omega) | (have h9 := KeepA.size_le (by assumption); (try simp only [vz_push, vz_set, drop_size] at *); omega)) _ | refine KeepA.drop ?_ (by first | omega | (simp only [vz_push, vz_set, drop_size]; omega) | (have h9 := KeepA.size_le (by assumption); (try simp only [vz_push, vz_set, drop_size] at *); omega)) | refine KeepA.trans ?_ (by assumption))) rfl
    · repeat' (first | ((first | apply ga_dec | apply ga_ndec | apply cd_dec | apply cd_ndec | apply gd_dec | apply gd_ndec | apply ga_split | apply cd_split | apply gd_split) <;> intro hc <;> (try (simp -implicitDefEqProofs (maxSteps := 2000000) (disch := first | omega | (simp only [vz_push, vz_set, drop_size]; first | done | omega)) only [push_cast, seval, f113N0, f113N1, hc])) <;> (try (exfalso; omega))) | refine VC_pure (hasPrefix_ok hk s [239, 191, 189] hl (by simp)) ?_ | (simp -implicitDefEqProofs (maxSteps := 2000000) (disch := first | omega | (simp only [vz_push, vz_set, drop_size]; first | done | omega)) only [push_cast, seval, f113N0, f113N1]))
      exact out_int (by (repeat first | assumption | exact KeepA.refl _ | apply KeepA.push | refine KeepA.set ?_ (by first | omega | (simp only [vz_push, vz_set, drop_size]; omega) | (have h9 := KeepA.size_le (by assumption); (try simp only [vz_push, vz_set, drop_size] at *); omega)) _ | refine KeepA.drop ?_ (by first | omega | (simp only [vz_push, vz_set, drop_size]; omega) | (have h9 := KeepA.size_le (by assumption); (try simp only [vz_push, vz_set, drop_size] at *); omega)) | refine KeepA.trans ?_ (by assumption))) rfl
  · rw [ho] at hw ⊢
    have hal := a.toNat_lt
    have hr : runeOf (1114112 + (a.toNat : Int)) = 65533 := by unfold runeOf; rw [if_pos (by omega)]
    have h3 : (s.take 3 = [239, 191, 189]) = False := eq_false (fun e => by have := hw.1 e; simp only at this; omega)
    simp only [hr]
    have hi : s[0]? = some a := by rw [hs]; rfl
    have hpos : 0 < s.length := List.length_pos_iff.2 h
    repeat' (first | ((first | apply ga_dec | apply ga_ndec | apply cd_dec | apply cd_ndec | apply gd_dec | apply gd_ndec | apply ga_split | apply cd_split | apply gd_split) <;> intro hc <;> (try (simp -implicitDefEqProofs (maxSteps := 2000000) (disch := first | omega | (simp only [vz_push, vz_set, drop_size]; first | done | omega)) only [push_cast, seval, f113N0, f113N1, hc, h3, hi])) <;> (try (exfalso; omega))) | refine VC_pure (hasPrefix_ok hk s [239, 191, 189] hl (by simp)) ?_ | (simp -implicitDefEqProofs (maxSteps := 2000000) (disch := first | omega | (simp only [vz_push, vz_set, drop_size]; first | done | omega)) only [push_cast, seval, f113N0, f113N1, h3, hi]))
    exact out_int (by (repeat first | assumption | exact KeepA.refl _ | apply KeepA.push | refine KeepA.set ?_ (by first | omega | (simp only [vz_push, vz_set, drop_size]; omega) | (have h9 := KeepA.size_le (by assumption); (try simp only [vz_push, vz_set, drop_size] at *); omega)) _ | refine KeepA.drop ?_ (by first | omega | (simp only [vz_push, vz_set, drop_size]; omega) | (have h9 := KeepA.size_le (by assumption); (try simp only [vz_push, vz_set, drop_size] at *); omega)) | refine KeepA.trans ?_ (by assumption))) rfl
theorem runeLen_ok (v : Int) (h0 : 0 ≤ v) (h1 : v ≤ 1114111) (h2 : v < 55296 ∨ 57343 < v) : PC (XK k) 114 [.c (.int .i32 v)] (.c (.int .i64 (encV v).length)) := by
  refine PC_of fun s => ?_
  refine f114_in (hk _ (by decide)) ?_
  have hl := encV_len v h0 h1
  (try (simp -implicitDefEqProofs (maxSteps := 2000000) (disch := first | omega | (simp only [vz_push, vz_set, drop_size]; first | done | omega)) only [push_cast, seval, f114N0, f114N1, f114N2, f114N3])) <;> (repeat' ((first | apply ga_dec | apply ga_ndec | apply cd_dec | apply cd_ndec | apply gd_dec | apply gd_ndec | apply ga_split | apply cd_split | apply gd_split) <;> intro hc <;> try (simp -implicitDefEqProofs (maxSteps := 2000000) (disch := first | omega | (simp only [vz_push, vz_set, drop_size]; first | done | omega)) only [push_cast, seval, f114N0, f114N1, f114N2, f114N3, hc])))
  all_goals
    refine out_int (by (repeat first | assumption | exact KeepA.refl _ | apply KeepA.push | refine KeepA.set ?_ (by first | omega | (simp only [vz_push, vz_set, drop_size]; omega) | (have h9 := KeepA.size_le (by assumption); (try simp only [vz_push, vz_set, drop_size] at *); omega)) _ | refine KeepA.drop ?_ (by first | omega | (simp only [vz_push, vz_set, drop_size]; omega) | (have h9 := KeepA.size_le (by assumption); (try simp only [vz_push, vz_set, drop_size] at *); omega)) | refine KeepA.trans ?_ (by assumption))) ?_
    rw [hl]
    (repeat' split) <;> omega
theorem one_ok (s : List UInt8) (h : s ≠ []) (hl : s.length < 1000000000) : PC (XK k) 97 [tx s] (.tup [.c (.int .i64 (oneL s).1), .c (.int .i64 (oneL s).2)]) := by
  refine PC_of fun st => ?_
  refine f97_in (hk _ (by decide)) ?_
  have hpos : 0 < s.length := List.length_pos_iff.2 h
  have hd := decode_at s 0 hpos
  rw [List.drop_zero] at hd
  have hrn := runeOf_nat h
  have hv := value_ok hk s h hl
  (try (simp -implicitDefEqProofs (maxSteps := 2000000) (disch := first | omega | (simp only [vz_push, vz_set, drop_size]; first | done | omega)) only [push_cast, seval, f97N0, f97N1, f97N2])) <;> (repeat' ((first | apply ga_dec | apply ga_ndec | apply cd_dec | apply cd_ndec | apply gd_dec | apply gd_ndec | apply ga_split | apply cd_split | apply gd_split) <;> intro hc <;> try (simp -implicitDefEqProofs (maxSteps := 2000000) (disch := first | omega | (simp only [vz_push, vz_set, drop_size]; first | done | omega)) only [push_cast, seval, f97N0, f97N1, f97N2, hc])))
  refine VW_iter (fun m ρ s' => ρ.get 0 = tx s ∧ ρ.get 8 = .ptr ⟨st.size, 0, none⟩ ∧ s'.get st.size = some (.iter ⟨s.toArray⟩ 0) ∧ KeepA st s') 1 ⟨by (((try simp -implicitDefEqProofs only [eA_tmp, eA_const, AEnv.get_set, ofA_get, List.getD_cons_zero, List.getD_cons_succ, ↓reduceIte, reduceCtorEq, Nat.reduceEqDiff]); try (first | (with_reducible assumption) | (with_reducible rfl) | (congr 2 <;> omega) | rfl))), by (((try simp -implicitDefEqProofs only [eA_tmp, eA_const, AEnv.get_set, ofA_get, List.getD_cons_zero, List.getD_cons_succ, ↓reduceIte, reduceCtorEq, Nat.reduceEqDiff]); try (first | (with_reducible assumption) | (with_reducible rfl) | (congr 2 <;> omega) | rfl))), by (simp -implicitDefEqProofs (disch := first | omega | (simp only [vz_push, vz_set, drop_size]; first | done | omega)) only [drop_ne, gp_ne, gp_eq, gs_ne, gs_eq]), by (repeat first | assumption | exact KeepA.refl _ | apply KeepA.push | refine KeepA.set ?_ (by first | omega | (simp only [vz_push, vz_set, drop_size]; omega) | (have h9 := KeepA.size_le (by assumption); (try simp only [vz_push, vz_set, drop_size] at *); omega)) _ | refine KeepA.drop ?_ (by first | omega | (simp only [vz_push, vz_set, drop_size]; omega) | (have h9 := KeepA.size_le (by assumption); (try simp only [vz_push, vz_set, drop_size] at *); omega)) | refine KeepA.trans ?_ (by assumption))⟩ ?_
  rintro m ρ s' ⟨g0, g8, j1, j2⟩
  have hsz := VS.lt_of_get j1
  rcases oneL_cases s h with ⟨v, r, h0, h1, h2, hs, ho⟩ | ⟨a, r, hs, ha, hc, ho⟩
  · rw [ho] at hd hrn hv ⊢
    have hr : runeOf v = v := by unfold runeOf; rw [if_neg (by omega)]
    simp only [hr] at hd hrn hv
    repeat' (first | ((first | apply ga_dec | apply ga_ndec | apply cd_dec | apply cd_ndec | apply gd_dec | apply gd_ndec | apply ga_split | apply cd_split | apply gd_split) <;> intro hc <;> (try (simp -implicitDefEqProofs (maxSteps := 2000000) (disch := first | omega | (simp only [vz_push, vz_set, drop_size]; first | done | omega)) only [push_cast, seval, f97N0, f97N1, f97N2, hc, g0, g8, j1, hd, hrn])) <;> (try (exfalso; omega))) | refine VC_pure (hv) ?_ | refine VC_pure (runeLen_ok hk v h0 h1 h2) ?_ | (simp -implicitDefEqProofs (maxSteps := 2000000) (disch := first | omega | (simp only [vz_push, vz_set, drop_size]; first | done | omega)) only [push_cast, seval, f97N0, f97N1, f97N2, g0, g8, j1, hd, hrn]))
    exact ⟨by (repeat first | assumption | exact KeepA.refl _ | apply KeepA.push | refine KeepA.set ?_ (by first | omega | (simp only [vz_push, vz_set, drop_size]; omega) | (have h9 := KeepA.size_le (by assumption); (try simp only [vz_push, vz_set, drop_size] at *); omega)) _ | refine KeepA.drop ?_ (by first | omega | (simp only [vz_push, vz_set, drop_size]; omega) | (have h9 := KeepA.size_le (by assumption); (try simp only [vz_push, vz_set, drop_size] at *); omega)) | refine KeepA.trans ?_ (by assumption)), Se.firm (Firm.tup (all_cons (Firm.c _) (all_cons (Firm.c _) all_nil)))⟩
  · rw [ho] at hd hrn hv ⊢
    have hal := a.toNat_lt
    have hr : runeOf (1114112 + (a.toNat : Int)) = 65533 := by unfold runeOf; rw [if_pos (by omega)]
    simp only [hr] at hd hrn hv
    obtain ⟨r0, hr0⟩ : ∃ r0 : Nat, r0 = 65533 := ⟨_, rfl⟩
    have hd' : Utf8.decode ⟨s.toArray⟩ 0 = (r0, 1) := by rw [hr0]; exact hd
    have hv : PC (XK k) 113 [tx s, .c (.int .i32 (r0 : Int))] (.c (.int .i64 (1114112 + (a.toNat : Int)))) := by rw [hr0]; exact hv
    repeat' (first | ((first | apply ga_dec | apply ga_ndec | apply cd_dec | apply cd_ndec | apply gd_dec | apply gd_ndec | apply ga_split | apply cd_split | apply gd_split) <;> intro hc <;> (try (simp -implicitDefEqProofs (maxSteps := 2000000) (disch := first | omega | (simp only [vz_push, vz_set, drop_size]; first | done | omega)) only [push_cast, seval, f97N0, f97N1, f97N2, hc, g0, g8, j1, hd'])) <;> (try (exfalso; omega))) | refine VC_pure (hv) ?_ | (simp -implicitDefEqProofs (maxSteps := 2000000) (disch := first | omega | (simp only [vz_push, vz_set, drop_size]; first | done | omega)) only [push_cast, seval, f97N0, f97N1, f97N2, g0, g8, j1, hd']))
    exact ⟨by (repeat first | assumption | exact KeepA.refl _ | apply KeepA.push | refine KeepA.set ?_ (by first | omega | (simp only [vz_push, vz_set, drop_size]; omega) | (have h9 := KeepA.size_le (by assumption); (try simp only [vz_push, vz_set, drop_size] at *); omega)) _ | refine KeepA.drop ?_ (by first | omega | (simp only [vz_push, vz_set, drop_size]; omega) | (have h9 := KeepA.size_le (by assumption); (try simp only [vz_push, vz_set, drop_size] at *); omega)) | refine KeepA.trans ?_ (by assumption)), Se.firm (Firm.tup (all_cons (Firm.c _) (all_cons (Firm.c _) all_nil)))⟩
end
end Go.Proofs.YtpckldhojfjdmaaDoor.Ab
