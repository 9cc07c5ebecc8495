/- What looks like something else: the laws SpoofAlike, SpoofScripts. -/
import Derived.Test.YtpckldhojfjdmaaDoorM6
import Derived.Test.YtpckldhojfjdmaaDoorG5
namespace Go.Proofs.YtpckldhojfjdmaaDoor.Ab
open Go.Proofs
set_option maxRecDepth 100000
set_option maxHeartbeats 4000000
set_option linter.unusedSimpArgs false
set_option linter.unusedVariables false
set_option linter.unnecessarySimpa false
set_option linter.unusedSectionVars false
/-- What a text is alike by. -/
def eyeL (s : List UInt8) : List UInt8 := foldL (stripL s)
/-- A value's script. -/
def scV (v : Int) : Int := if 97 ≤ v ∧ v ≤ 122 ∨ 65 ≤ v ∧ v ≤ 90 ∨ 192 ≤ v ∧ v ≤ 591 then 1 else if 880 ≤ v ∧ v ≤ 1023 then 2 else if 1024 ≤ v ∧ v ≤ 1327 then 3 else if classOf v = 2 then 4 else 0
theorem scV_rng (v : Int) : scV v = 0 ∨ scV v = 1 ∨ scV v = 2 ∨ scV v = 3 ∨ scV v = 4 := by unfold scV; (repeat' split) <;> simp
def hasR (d : List Int) (n : Nat) : Bool := d.any fun v => decide (scV v = n)
def rowS (d : List Int) : List AV := [.c (.bool (hasR d 0)), .c (.bool (hasR d 1)), .c (.bool (hasR d 2)), .c (.bool (hasR d 3)), .c (.bool (hasR d 4))]
theorem hasR_snoc (d : List Int) (v : Int) (n : Nat) : hasR (d ++ [v]) n = (hasR d n || decide (scV v = n)) := by simp [hasR]
def scL (d : List Int) (n : Nat) : List Int := ((List.range n).filter fun j : Nat => decide (0 < j) && hasR d j).map fun j : Nat => (j : Int)
theorem scL_succ (d : List Int) (n : Nat) : scL d (n + 1) = scL d n ++ if decide (0 < n) && hasR d n then [(n : Int)] else [] := by
  unfold scL
  rw [List.range_succ, List.filter_append, List.map_append]
  congr 1
  rw [List.filter_cons]
  cases decide (0 < n) && hasR d n <;> rfl
theorem scL_le (d : List Int) (n : Nat) : (scL d n).length ≤ n := by
  unfold scL
  rw [List.length_map]
  have := List.length_filter_le (fun j => decide (0 < j) && hasR d j) (List.range n)
  rwa [List.length_range] at this
@[reducible] def LX (ls : List (List UInt8)) : AV := .lst 1 (ls.map fun l => [tx l])
/-- The first text of such a kind. -/
def fndL (q : List UInt8 → Bool) : Nat → List (List UInt8) → Int
  | _, [] => -1
  | i, x :: l => if q x then i else fndL q (i + 1) l
section
variable {k : Nat → List Value → Option Value} (hk : ∀ f, f ≠ 95 → Open k f)
include hk
theorem salike_ok (a b : List UInt8) (ha : a.length < 10000) (hb : b.length < 10000) : PC (XK k) 38 [tx a, tx b] (.c (.bool (eyeL a == eyeL b))) := by
  have s1 := stripL_len a
  have s2 := stripL_len b
  refine PC_of fun st => ?_
  refine f38_in (hk _ (by decide)) ?_
  repeat' (first | ((first | apply ga_dec | apply ga_ndec | apply cd_dec | apply cd_ndec | apply gd_dec | apply gd_ndec | apply ga_split | apply cd_split | apply gd_split) <;> intro hc <;> (try (simp -implicitDefEqProofs (maxSteps := 2000000) (disch := first | omega | (simp only [vz_push, vz_set, drop_size]; first | done | omega)) only [push_cast, seval, f38N0, hc])) <;> (try (exfalso; omega))) | refine VC_pure (sstrip_ok hk a (by omega)) ?_ | refine VC_pure (sstrip_ok hk b (by omega)) ?_ | refine VC_pure (sfold_ok hk (stripL a) (by omega)) ?_ | refine VC_pure (sfold_ok hk (stripL b) (by omega)) ?_ | (simp -implicitDefEqProofs (maxSteps := 2000000) (disch := first | omega | (simp only [vz_push, vz_set, drop_size]; first | done | omega)) only [push_cast, seval, f38N0]))
  exact out_bool (by (repeat first | assumption | exact KeepA.refl _ | apply KeepA.push | refine KeepA.set ?_ (by first | omega | (simp only [vz_push, vz_set, drop_size]; omega) | (have h9 := KeepA.size_le (by assumption); (try simp only [vz_push, vz_set, drop_size] at *); omega)) _ | refine KeepA.drop ?_ (by first | omega | (simp only [vz_push, vz_set, drop_size]; omega) | (have h9 := KeepA.size_le (by assumption); (try simp only [vz_push, vz_set, drop_size] at *); omega)) | refine KeepA.trans ?_ (by assumption))) rfl
theorem spoofAlike_ok (haw : k 30 [] = some (.bool true)) (b1 b2 b3 : ByteArray) (s : VS) :
    VC (XK k) 8 [.c (.string b1), .c (.string b2), .c (.string b3)] s fun r _ => r = .c (.bool true) := by
  have haw' : ∀ {vs : VS} {Q : AV → VS → Prop}, Q (.c (.bool true)) vs → VC (XK k) 30 [] vs Q := fun h => VC_known (ws := []) (v := .bool true) haw rfl rfl h
  obtain ⟨a, rfl⟩ : ∃ l : List UInt8, b1 = ⟨l.toArray⟩ := ⟨b1.data.toList, (bytes_mk b1).symm⟩
  obtain ⟨b, rfl⟩ : ∃ l : List UInt8, b2 = ⟨l.toArray⟩ := ⟨b2.data.toList, (bytes_mk b2).symm⟩
  obtain ⟨c, rfl⟩ : ∃ l : List UInt8, b3 = ⟨l.toArray⟩ := ⟨b3.data.toList, (bytes_mk b3).symm⟩
  refine f8_in (hk _ (by decide)) ?_
  by_cases hl : a.length ≤ 200 ∧ b.length ≤ 200 ∧ c.length ≤ 200
  · have s1 := stripL_len a
    have s2 := stripL_len b
    have w1 := salike_ok hk a b (by omega) (by omega)
    have w2 := salike_ok hk b c (by omega) (by omega)
    have w3 := salike_ok hk a c (by omega) (by omega)
    have w4 := salike_ok hk b a (by omega) (by omega)
    have w5 := salike_ok hk a a (by omega) (by omega)
    have w6 := rstrip_ok hk a (by omega)
    have w7 := rstrip_ok hk b (by omega)
    have w8 := rfold_ok hk (stripL a) (by omega)
    have w9 := rfold_ok hk (stripL b) (by omega)
    rw [← show eyeL a = foldL (stripL a) from rfl] at w8
    rw [← show eyeL b = foldL (stripL b) from rfl] at w9
    generalize eyeL a = A at *
    generalize eyeL b = B at *
    generalize eyeL c = C at *
    generalize stripL a = a' at *
    generalize stripL b = b' at *
    by_cases h1 : A = B
    · subst h1
      by_cases h2 : A = C
      · subst h2
        repeat' (first | ((first | apply ga_dec | apply ga_ndec | apply cd_dec | apply cd_ndec | apply gd_dec | apply gd_ndec | apply ga_split | apply cd_split | apply gd_split) <;> intro hc <;> (try (simp -implicitDefEqProofs (maxSteps := 2000000) (disch := first | omega | (simp only [vz_push, vz_set, drop_size]; first | done | omega)) only [push_cast, seval, f8N0, f8N1, hc])) <;> (try (exfalso; omega))) | refine haw' ?_ | refine VC_pure (w1) ?_ | refine VC_pure (w2) ?_ | refine VC_pure (w3) ?_ | refine VC_pure (w4) ?_ | refine VC_pure (w5) ?_ | refine VC_pure (w6) ?_ | refine VC_pure (w7) ?_ | refine VC_pure (w8) ?_ | refine VC_pure (w9) ?_ | (simp -implicitDefEqProofs (maxSteps := 2000000) (disch := first | omega | (simp only [vz_push, vz_set, drop_size]; first | done | omega)) only [push_cast, seval, f8N0, f8N1]))
      · have e2 : (A == C) = false := by simpa using h2
        rw [e2] at w2 w3
        repeat' (first | ((first | apply ga_dec | apply ga_ndec | apply cd_dec | apply cd_ndec | apply gd_dec | apply gd_ndec | apply ga_split | apply cd_split | apply gd_split) <;> intro hc <;> (try (simp -implicitDefEqProofs (maxSteps := 2000000) (disch := first | omega | (simp only [vz_push, vz_set, drop_size]; first | done | omega)) only [push_cast, seval, f8N0, f8N1, hc])) <;> (try (exfalso; omega))) | refine haw' ?_ | refine VC_pure (w1) ?_ | refine VC_pure (w2) ?_ | refine VC_pure (w3) ?_ | refine VC_pure (w4) ?_ | refine VC_pure (w5) ?_ | refine VC_pure (w6) ?_ | refine VC_pure (w7) ?_ | refine VC_pure (w8) ?_ | refine VC_pure (w9) ?_ | (simp -implicitDefEqProofs (maxSteps := 2000000) (disch := first | omega | (simp only [vz_push, vz_set, drop_size]; first | done | omega)) only [push_cast, seval, f8N0, f8N1]))
    · have e1 : (A == B) = false := by simpa using h1
      have e2 : (B == A) = false := by simpa using fun e => h1 e.symm
      rw [e1] at w1
      rw [e2] at w4
      repeat' (first | ((first | apply ga_dec | apply ga_ndec | apply cd_dec | apply cd_ndec | apply gd_dec | apply gd_ndec | apply ga_split | apply cd_split | apply gd_split) <;> intro hc <;> (try (simp -implicitDefEqProofs (maxSteps := 2000000) (disch := first | omega | (simp only [vz_push, vz_set, drop_size]; first | done | omega)) only [push_cast, seval, f8N0, f8N1, hc, e1])) <;> (try (exfalso; omega))) | refine haw' ?_ | refine VC_pure (w1) ?_ | refine VC_pure (w2) ?_ | refine VC_pure (w3) ?_ | refine VC_pure (w4) ?_ | refine VC_pure (w5) ?_ | refine VC_pure (w6) ?_ | refine VC_pure (w7) ?_ | refine VC_pure (w8) ?_ | refine VC_pure (w9) ?_ | (simp -implicitDefEqProofs (maxSteps := 2000000) (disch := first | omega | (simp only [vz_push, vz_set, drop_size]; first | done | omega)) only [push_cast, seval, f8N0, f8N1, e1]))
  · repeat' (first | ((first | apply ga_dec | apply ga_ndec | apply cd_dec | apply cd_ndec | apply gd_dec | apply gd_ndec | apply ga_split | apply cd_split | apply gd_split) <;> intro hc <;> (try (simp -implicitDefEqProofs (maxSteps := 2000000) (disch := first | omega | (simp only [vz_push, vz_set, drop_size]; first | done | omega)) only [push_cast, seval, f8N0, f8N1, hc])) <;> (try (exfalso; omega))) | refine haw' ?_ | (simp -implicitDefEqProofs (maxSteps := 2000000) (disch := first | omega | (simp only [vz_push, vz_set, drop_size]; first | done | omega)) only [push_cast, seval, f8N0, f8N1]))
theorem script_ok (v : Int) : PC (XK k) 102 [.c (.int .i64 v)] (.c (.int .i64 (scV v))) := by
  refine PC_of fun s => ?_
  refine f102_in (hk _ (by decide)) ?_
  repeat' (first | ((first | apply ga_dec | apply ga_ndec | apply cd_dec | apply cd_ndec | apply gd_dec | apply gd_ndec | apply ga_split | apply cd_split | apply gd_split) <;> intro hc <;> (try (simp -implicitDefEqProofs (maxSteps := 2000000) (disch := first | omega | (simp only [vz_push, vz_set, drop_size]; first | done | omega)) only [push_cast, seval, f102N0, f102N1, f102N2, f102N3, hc])) <;> (try (exfalso; omega))) | refine VC_pure (classOf_ok hk v) ?_ | (simp -implicitDefEqProofs (maxSteps := 2000000) (disch := first | omega | (simp only [vz_push, vz_set, drop_size]; first | done | omega)) only [push_cast, seval, f102N0, f102N1, f102N2, f102N3]))
  all_goals refine out_int (by (repeat first | assumption | exact KeepA.refl _ | apply KeepA.push | refine KeepA.set ?_ (by first | omega | (simp only [vz_push, vz_set, drop_size]; omega) | (have h9 := KeepA.size_le (by assumption); (try simp only [vz_push, vz_set, drop_size] at *); omega)) _ | refine KeepA.drop ?_ (by first | omega | (simp only [vz_push, vz_set, drop_size]; omega) | (have h9 := KeepA.size_le (by assumption); (try simp only [vz_push, vz_set, drop_size] at *); omega)) | refine KeepA.trans ?_ (by assumption))) ?_
  all_goals unfold scV
  all_goals (repeat' split) <;> omega
theorem rhas_ok (s : List UInt8) (n : Nat) (hl : s.length < 1000000) (hn : n < 100) (hn1 : 0 < n) : PC (XK k) 39 [tx s, .c (.int .i64 n)] (.c (.bool (hasR (decL s) n))) := by
  refine PC_of fun st => ?_
  refine f39_in (hk _ (by decide)) ?_
  have hdl := decL_len s
  repeat' (first | ((first | apply ga_dec | apply ga_ndec | apply cd_dec | apply cd_ndec | apply gd_dec | apply gd_ndec | apply ga_split | apply cd_split | apply gd_split) <;> intro hc <;> (try (simp -implicitDefEqProofs (maxSteps := 2000000) (disch := first | omega | (simp only [vz_push, vz_set, drop_size]; first | done | omega)) only [push_cast, seval, f39N0, f39N1, f39N2, f39N3, f39N4, hc])) <;> (try (exfalso; omega))) | refine VC_pure (rdecode_ok hk s hl) ?_ | (simp -implicitDefEqProofs (maxSteps := 2000000) (disch := first | omega | (simp only [vz_push, vz_set, drop_size]; first | done | omega)) only [push_cast, seval, f39N0, f39N1, f39N2, f39N3, f39N4]))
  generalize decL s = d at *
  refine VW_iter (fun m ρ s' => ∃ j : Nat, m = d.length - j ∧ j ≤ d.length ∧ ρ.get 1 = .c (.int .i64 n) ∧ ρ.get 5 = LI d ∧ ρ.get 6 = .c (.int .i64 j) ∧ (hasR (d.take j) n = false) ∧ (s' = st)) (d.length) ⟨0, rfl, Nat.zero_le _, by (((try simp -implicitDefEqProofs only [eA_tmp, eA_const, AEnv.get_set, ofA_get, List.getD_cons_zero, List.getD_cons_succ, ↓reduceIte, reduceCtorEq, Nat.reduceEqDiff]); try (first | (with_reducible assumption) | (with_reducible rfl) | (congr 2 <;> omega) | rfl))), by (((try simp -implicitDefEqProofs only [eA_tmp, eA_const, AEnv.get_set, ofA_get, List.getD_cons_zero, List.getD_cons_succ, ↓reduceIte, reduceCtorEq, Nat.reduceEqDiff]); try (first | (with_reducible assumption) | (with_reducible rfl) | (congr 2 <;> omega) | rfl))), by (((try simp -implicitDefEqProofs only [eA_tmp, eA_const, AEnv.get_set, ofA_get, List.getD_cons_zero, List.getD_cons_succ, ↓reduceIte, reduceCtorEq, Nat.reduceEqDiff]); try (first | (with_reducible assumption) | (with_reducible rfl) | (congr 2 <;> omega) | rfl))), (by simp [hasR]), rfl⟩ ?_
  rintro m ρ s' ⟨j, rfl, hj, g1, g5, g6, j1, j2⟩
  subst j2
  by_cases hc : j < d.length
  · obtain ⟨v, hv⟩ : ∃ v, d[j]? = some v := ⟨_, List.getElem?_eq_getElem hc⟩
    have hst : hasR (d.take (j + 1)) n = (hasR (d.take j) n || decide (scV v = n)) := by rw [take_snoc hv, hasR_snoc]
    have hdrop : hasR d n = (hasR (d.take (j + 1)) n || hasR (d.drop (j + 1)) n) := by
      conv => lhs; rw [← List.take_append_drop (j + 1) d]
      unfold hasR
      rw [List.any_append]
    rw [j1, Bool.false_or] at hst
    have hscv : ∀ m : Int, m = scV v → (m = n ∧ hasR d n = true) ∨ (m ≠ n ∧ hasR (d.take (j + 1)) n = false) := fun m hm => by
      subst hm
      by_cases h : scV v = n
      · left; exact ⟨h, by rw [hdrop, hst, decide_eq_true h]; rfl⟩
      · right; exact ⟨h, by rw [hst, decide_eq_false h]⟩
    repeat' (first | ((first | apply ga_dec | apply ga_ndec | apply cd_dec | apply cd_ndec | apply gd_dec | apply gd_ndec | apply ga_split | apply cd_split | apply gd_split) <;> intro hc <;> (try (simp -implicitDefEqProofs (maxSteps := 2000000) (disch := first | omega | (simp only [vz_push, vz_set, drop_size]; first | done | omega)) only [push_cast, seval, f39N0, f39N1, f39N2, f39N3, f39N4, hc, g1, g5, g6, hv, eI])) <;> (try (exfalso; omega))) | refine VC_pure (rof_ok hk v) ?_ | (simp -implicitDefEqProofs (maxSteps := 2000000) (disch := first | omega | (simp only [vz_push, vz_set, drop_size]; first | done | omega)) only [push_cast, seval, f39N0, f39N1, f39N2, f39N3, f39N4, g1, g5, g6, hv, eI]))
    all_goals first
      | (show outP _ _ _ _ _
         refine out_bool (by (repeat first | assumption | exact KeepA.refl _ | apply KeepA.push | refine KeepA.set ?_ (by first | omega | (simp only [vz_push, vz_set, drop_size]; omega) | (have h9 := KeepA.size_le (by assumption); (try simp only [vz_push, vz_set, drop_size] at *); omega)) _ | refine KeepA.drop ?_ (by first | omega | (simp only [vz_push, vz_set, drop_size]; omega) | (have h9 := KeepA.size_le (by assumption); (try simp only [vz_push, vz_set, drop_size] at *); omega)) | refine KeepA.trans ?_ (by assumption))) ?_
         have hq : scV v = n := by unfold scV; (repeat' split) <;> omega
         rw [hdrop, hst, decide_eq_true hq]
         rfl)
      | (have hq : ¬ scV v = n := by unfold scV; (repeat' split) <;> omega
         refine ⟨_ - (j + 1), by omega, j + 1, rfl, by omega, ?_⟩ <;> (try simp only [Int.natCast_add, Int.natCast_one, cast_lit, and_true, true_and, eq_self])
         rw [hst, decide_eq_false hq])
  · obtain rfl : j = d.length := by omega
    rw [List.take_length] at j1
    repeat' (first | ((first | apply ga_dec | apply ga_ndec | apply cd_dec | apply cd_ndec | apply gd_dec | apply gd_ndec | apply ga_split | apply cd_split | apply gd_split) <;> intro hc <;> (try (simp -implicitDefEqProofs (maxSteps := 2000000) (disch := first | omega | (simp only [vz_push, vz_set, drop_size]; first | done | omega)) only [push_cast, seval, f39N0, f39N1, f39N2, f39N3, f39N4, hc, g1, g5, g6])) <;> (try (exfalso; omega))) | (simp -implicitDefEqProofs (maxSteps := 2000000) (disch := first | omega | (simp only [vz_push, vz_set, drop_size]; first | done | omega)) only [push_cast, seval, f39N0, f39N1, f39N2, f39N3, f39N4, g1, g5, g6]))
    exact out_bool (by (repeat first | assumption | exact KeepA.refl _ | apply KeepA.push | refine KeepA.set ?_ (by first | omega | (simp only [vz_push, vz_set, drop_size]; omega) | (have h9 := KeepA.size_le (by assumption); (try simp only [vz_push, vz_set, drop_size] at *); omega)) _ | refine KeepA.drop ?_ (by first | omega | (simp only [vz_push, vz_set, drop_size]; omega) | (have h9 := KeepA.size_le (by assumption); (try simp only [vz_push, vz_set, drop_size] at *); omega)) | refine KeepA.trans ?_ (by assumption))) j1.symm
theorem scripts_ok (s : List UInt8) (hl : s.length < 1000000) : PC (XK k) 76 [tx s] (.agg (rowS (decL s))) := by
  refine PC_of fun st => ?_
  refine f76_in (hk _ (by decide)) ?_
  (try (simp -implicitDefEqProofs (maxSteps := 2000000) (disch := first | omega | (simp only [vz_push, vz_set, drop_size]; first | done | omega)) only [push_cast, seval, f76N0, f76N1])) <;> (repeat' ((first | apply ga_dec | apply ga_ndec | apply cd_dec | apply cd_ndec | apply gd_dec | apply gd_ndec | apply ga_split | apply cd_split | apply gd_split) <;> intro hc <;> try (simp -implicitDefEqProofs (maxSteps := 2000000) (disch := first | omega | (simp only [vz_push, vz_set, drop_size]; first | done | omega)) only [push_cast, seval, f76N0, f76N1, hc])))
  refine VW_iter (fun m ρ s' => ∃ (p : Nat) (d : List Int), m = s.length - p ∧ p ≤ s.length ∧ decL s = d ++ decL (s.drop p) ∧ ρ.get 0 = tx s ∧ ρ.get 2 = .ptr ⟨st.size, 0, none⟩ ∧ ρ.get 3 = .ptr ⟨st.size + 1, 0, none⟩ ∧ ρ.get 8 = .ptr ⟨st.size + 1 + 1, 0, none⟩ ∧ s'.get (st.size + 1 + 1) = some (.iter ⟨s.toArray⟩ p) ∧ s'.get (st.size + 1) = some (.own ⟨rowS d, 78, 0, 0, false⟩) ∧ s'.get st.size = some (.own ⟨rowS [], 78, 0, 0, false⟩) ∧ KeepA st s') s.length
    ⟨0, [], rfl, Nat.zero_le _, by simp, by (((try simp -implicitDefEqProofs only [eA_tmp, eA_const, AEnv.get_set, ofA_get, List.getD_cons_zero, List.getD_cons_succ, ↓reduceIte, reduceCtorEq, Nat.reduceEqDiff]); try (first | (with_reducible assumption) | (with_reducible rfl) | (congr 2 <;> omega) | rfl))), by (((try simp -implicitDefEqProofs only [eA_tmp, eA_const, AEnv.get_set, ofA_get, List.getD_cons_zero, List.getD_cons_succ, ↓reduceIte, reduceCtorEq, Nat.reduceEqDiff]); try (first | (with_reducible assumption) | (with_reducible rfl) | (congr 2 <;> omega) | rfl))), by (((try simp -implicitDefEqProofs only [eA_tmp, eA_const, AEnv.get_set, ofA_get, List.getD_cons_zero, List.getD_cons_succ, ↓reduceIte, reduceCtorEq, Nat.reduceEqDiff]); try (first | (with_reducible assumption) | (with_reducible rfl) | (congr 2 <;> omega) | rfl))), by (((try simp -implicitDefEqProofs only [eA_tmp, eA_const, AEnv.get_set, ofA_get, List.getD_cons_zero, List.getD_cons_succ, ↓reduceIte, reduceCtorEq, Nat.reduceEqDiff]); try (first | (with_reducible assumption) | (with_reducible rfl) | (congr 2 <;> omega) | rfl))), by (simp -implicitDefEqProofs (disch := first | omega | (simp only [vz_push, vz_set, drop_size]; first | done | omega)) only [drop_ne, gp_ne, gp_eq, gs_ne, gs_eq]), (by (simp -implicitDefEqProofs (disch := first | omega | (simp only [vz_push, vz_set, drop_size]; first | done | omega)) only [drop_ne, gp_ne, gp_eq, gs_ne, gs_eq]); rfl), (by (simp -implicitDefEqProofs (disch := first | omega | (simp only [vz_push, vz_set, drop_size]; first | done | omega)) only [drop_ne, gp_ne, gp_eq, gs_ne, gs_eq]); rfl), by (repeat first | assumption | exact KeepA.refl _ | apply KeepA.push | refine KeepA.set ?_ (by first | omega | (simp only [vz_push, vz_set, drop_size]; omega) | (have h9 := KeepA.size_le (by assumption); (try simp only [vz_push, vz_set, drop_size] at *); omega)) _ | refine KeepA.drop ?_ (by first | omega | (simp only [vz_push, vz_set, drop_size]; omega) | (have h9 := KeepA.size_le (by assumption); (try simp only [vz_push, vz_set, drop_size] at *); omega)) | refine KeepA.trans ?_ (by assumption))⟩ ?_
  rintro m ρ s' ⟨p, d, rfl, hp, hd, g0, g2, g3, g8, j1, j2, j2b, j3⟩
  have hsz := VS.lt_of_get j1
  by_cases hc : p < s.length
  · have hne : s.drop p ≠ [] := fun e => by have := List.drop_eq_nil_iff.1 e; omega
    have hdc := decode_at s p hc
    have hos := oneL_szpos hne
    rw [List.length_drop] at hos
    have hon := one_ok hk (s.drop p) hne (by rw [List.length_drop]; omega)
    rw [decL_cons hne, List.drop_drop] at hd
    have htk : List.take s.length s = s := List.take_length
    generalize (runeOf (oneL (s.drop p)).1).toNat = r0 at *
    generalize (oneL (s.drop p)).1 = v at *
    generalize (oneL (s.drop p)).2 = n at *
    have hsn := fun m => hasR_snoc d v m
    have hrow : rowS (d ++ [v]) = overA (rowS d) (scV v).toNat [.c (.bool true)] := by
      unfold rowS
      simp only [hsn]
      rcases scV_rng v with h | h | h | h | h <;> rw [h] <;> simp [overA]
    have hr5 : 0 ≤ scV v ∧ scV v < 5 := by have := scV_rng v; omega
    have hlen : (rowS d).length = 5 := rfl
    have hov : ∀ x, overA x (scV v).toNat [.c (.bool true)] = overA x (scV v).toNat [.c (.bool true)] := fun _ => rfl
    repeat' (first | ((first | apply ga_dec | apply ga_ndec | apply cd_dec | apply cd_ndec | apply gd_dec | apply gd_ndec | apply ga_split | apply cd_split | apply gd_split) <;> intro hc <;> (try (simp -implicitDefEqProofs (maxSteps := 2000000) (disch := first | omega | (simp only [vz_push, vz_set, drop_size]; first | done | omega)) only [push_cast, seval, f76N0, f76N1, hc, g0, g2, g3, g8, j1, j2, j2b, hdc, htk, hlen])) <;> (try (exfalso; omega))) | refine VC_pure (hon) ?_ | refine VC_pure (script_ok hk v) ?_ | (simp -implicitDefEqProofs (maxSteps := 2000000) (disch := first | omega | (simp only [vz_push, vz_set, drop_size]; first | done | omega)) only [push_cast, seval, f76N0, f76N1, g0, g2, g3, g8, j1, j2, j2b, hdc, htk, hlen]))
    refine ⟨_, by omega, p + n, d ++ [v], rfl, by omega, by rw [hd]; simp, rfl, ?_, by (repeat first | assumption | exact KeepA.refl _ | apply KeepA.push | refine KeepA.set ?_ (by first | omega | (simp only [vz_push, vz_set, drop_size]; omega) | (have h9 := KeepA.size_le (by assumption); (try simp only [vz_push, vz_set, drop_size] at *); omega)) _ | refine KeepA.drop ?_ (by first | omega | (simp only [vz_push, vz_set, drop_size]; omega) | (have h9 := KeepA.size_le (by assumption); (try simp only [vz_push, vz_set, drop_size] at *); omega)) | refine KeepA.trans ?_ (by assumption))⟩
    rw [hrow]
    rfl
  · obtain rfl : p = s.length := by omega
    rw [List.drop_eq_nil_of_le (Nat.le_refl _), decL_nil, List.append_nil] at hd
    rw [hd]
    repeat' (first | ((first | apply ga_dec | apply ga_ndec | apply cd_dec | apply cd_ndec | apply gd_dec | apply gd_ndec | apply ga_split | apply cd_split | apply gd_split) <;> intro hc <;> (try (simp -implicitDefEqProofs (maxSteps := 2000000) (disch := first | omega | (simp only [vz_push, vz_set, drop_size]; first | done | omega)) only [push_cast, seval, f76N0, f76N1, hc, g0, g2, g3, g8, j1, j2, j2b, Nat.lt_irrefl, rowS])) <;> (try (exfalso; omega))) | (simp -implicitDefEqProofs (maxSteps := 2000000) (disch := first | omega | (simp only [vz_push, vz_set, drop_size]; first | done | omega)) only [push_cast, seval, f76N0, f76N1, g0, g2, g3, g8, j1, j2, j2b, Nat.lt_irrefl, rowS]))
    exact out_firm (by (repeat first | assumption | exact KeepA.refl _ | apply KeepA.push | refine KeepA.set ?_ (by first | omega | (simp only [vz_push, vz_set, drop_size]; omega) | (have h9 := KeepA.size_le (by assumption); (try simp only [vz_push, vz_set, drop_size] at *); omega)) _ | refine KeepA.drop ?_ (by first | omega | (simp only [vz_push, vz_set, drop_size]; omega) | (have h9 := KeepA.size_le (by assumption); (try simp only [vz_push, vz_set, drop_size] at *); omega)) | refine KeepA.trans ?_ (by assumption))) rfl (Firm.agg (by intro v hv; simp at hv; rcases hv with rfl | rfl | rfl | rfl | rfl <;> exact Firm.c _))
theorem sscripts_ok (s : List UInt8) (hl : s.length < 1000000) : PC (XK k) 41 [tx s] (LI (scL (decL s) 5)) := by
  refine PC_of fun st => ?_
  refine f41_in (hk _ (by decide)) ?_
  have hsc := scripts_ok hk s hl
  generalize decL s = d at *
  repeat' (first | ((first | apply ga_dec | apply ga_ndec | apply cd_dec | apply cd_ndec | apply gd_dec | apply gd_ndec | apply ga_split | apply cd_split | apply gd_split) <;> intro hc <;> (try (simp -implicitDefEqProofs (maxSteps := 2000000) (disch := first | omega | (simp only [vz_push, vz_set, drop_size]; first | done | omega)) only [push_cast, seval, f41N0, f41N1, f41N2, hc])) <;> (try (exfalso; omega))) | refine VC_pure (hsc) ?_ | (simp -implicitDefEqProofs (maxSteps := 2000000) (disch := first | omega | (simp only [vz_push, vz_set, drop_size]; first | done | omega)) only [push_cast, seval, f41N0, f41N1, f41N2]))
  refine VW_iter (fun m ρ s' => ∃ j : Nat, m = 5 - j ∧ j ≤ 5 ∧ ρ.get 7 = .agg (rowS d) ∧ ρ.get 8 = .c (.int .i64 j) ∧ (Gw st s' 3 1 (ρ.get 3) (scL d j).length ((scL d j).map (eI .i64)).flatten) ∧ (KeepA st s')) (5) ⟨0, rfl, Nat.zero_le _, by (((try simp -implicitDefEqProofs only [eA_tmp, eA_const, AEnv.get_set, ofA_get, List.getD_cons_zero, List.getD_cons_succ, ↓reduceIte, reduceCtorEq, Nat.reduceEqDiff]); try (first | (with_reducible assumption) | (with_reducible rfl) | (congr 2 <;> omega) | rfl))), by (((try simp -implicitDefEqProofs only [eA_tmp, eA_const, AEnv.get_set, ofA_get, List.getD_cons_zero, List.getD_cons_succ, ↓reduceIte, reduceCtorEq, Nat.reduceEqDiff]); try (first | (with_reducible assumption) | (with_reducible rfl) | (congr 2 <;> omega) | rfl))), (by (((try simp -implicitDefEqProofs only [eA_tmp, eA_const, AEnv.get_set, ofA_get, List.getD_cons_zero, List.getD_cons_succ, ↓reduceIte, reduceCtorEq, Nat.reduceEqDiff]); try (first | (with_reducible assumption) | (with_reducible rfl) | (congr 2 <;> omega) | rfl))); exact Gw.nil), by (repeat first | assumption | exact KeepA.refl _ | apply KeepA.push | refine KeepA.set ?_ (by first | omega | (simp only [vz_push, vz_set, drop_size]; omega) | (have h9 := KeepA.size_le (by assumption); (try simp only [vz_push, vz_set, drop_size] at *); omega)) _ | refine KeepA.drop ?_ (by first | omega | (simp only [vz_push, vz_set, drop_size]; omega) | (have h9 := KeepA.size_le (by assumption); (try simp only [vz_push, vz_set, drop_size] at *); omega)) | refine KeepA.trans ?_ (by assumption))⟩ ?_
  rintro m ρ s' ⟨j, rfl, hj, g7, g8, j1, j2⟩
  obtain ⟨v, g3⟩ : ∃ v, ρ.get 3 = v := ⟨_, rfl⟩
  rw [g3] at j1
  by_cases hc : j < 5
  · have hst := scL_succ d j
    have hle := scL_le d j
    have hget : (rowS d)[j]? = some (.c (.bool (hasR d j))) := by
      have : j = 0 ∨ j = 1 ∨ j = 2 ∨ j = 3 ∨ j = 4 := by omega
      rcases this with rfl | rfl | rfl | rfl | rfl <;> rfl
    cases hb : hasR d j
    · rw [hb, Bool.and_false] at hst
      repeat' (first | ((first | apply ga_dec | apply ga_ndec | apply cd_dec | apply cd_ndec | apply gd_dec | apply gd_ndec | apply ga_split | apply cd_split | apply gd_split) <;> intro hc <;> (try (simp -implicitDefEqProofs (maxSteps := 2000000) (disch := first | omega | (simp only [vz_push, vz_set, drop_size]; first | done | omega)) only [push_cast, seval, f41N0, f41N1, f41N2, hc, g3, g7, g8, hget, hb])) <;> (try (exfalso; omega))) | (simp -implicitDefEqProofs (maxSteps := 2000000) (disch := first | omega | (simp only [vz_push, vz_set, drop_size]; first | done | omega)) only [push_cast, seval, f41N0, f41N1, f41N2, g3, g7, g8, hget, hb]))
      refine ⟨_ - (j + 1), by omega, j + 1, rfl, by omega, ?_⟩ <;> (try simp only [Int.natCast_add, Int.natCast_one, cast_lit, and_true, true_and, eq_self])
      rw [hst]
      exact ⟨j1.cast (by simp) (by simp), j2⟩
    · rw [hb, Bool.and_true] at hst
      by_cases h0 : 0 < j
      · rw [decide_eq_true h0, if_pos rfl] at hst
        repeat' (first | ((first | apply ga_dec | apply ga_ndec | apply cd_dec | apply cd_ndec | apply gd_dec | apply gd_ndec | apply ga_split | apply cd_split | apply gd_split) <;> intro hc <;> (try (simp -implicitDefEqProofs (maxSteps := 2000000) (disch := first | omega | (simp only [vz_push, vz_set, drop_size]; first | done | omega)) only [push_cast, seval, f41N0, f41N1, f41N2, hc, g3, g7, g8, hget, hb])) <;> (try (exfalso; omega))) | (simp -implicitDefEqProofs (maxSteps := 2000000) (disch := first | omega | (simp only [vz_push, vz_set, drop_size]; first | done | omega)) only [push_cast, seval, f41N0, f41N1, f41N2, g3, g7, g8, hget, hb]))
        refine Gw.step (m := 1) (j1.push _) (j2.push _) rfl rfl rfl (room_ok (by constructor <;> (try dsimp only) <;> omega)) ?_
        intro v' s2 hg hbt hn hk'
        (try (simp -implicitDefEqProofs (maxSteps := 2000000) (disch := first | omega | (simp only [vz_push, vz_set, drop_size]; first | done | omega)) only [push_cast, seval, f41N0, f41N1, f41N2, g7, g8])) <;> (repeat' ((first | apply ga_dec | apply ga_ndec | apply cd_dec | apply cd_ndec | apply gd_dec | apply gd_ndec | apply ga_split | apply cd_split | apply gd_split) <;> intro hc <;> try (simp -implicitDefEqProofs (maxSteps := 2000000) (disch := first | omega | (simp only [vz_push, vz_set, drop_size]; first | done | omega)) only [push_cast, seval, f41N0, f41N1, f41N2, hc, g7, g8])))
        refine ⟨_ - (j + 1), by omega, j + 1, rfl, by omega, ?_⟩ <;> (try simp only [Int.natCast_add, Int.natCast_one, cast_lit, and_true, true_and, eq_self])
        rw [hst]
        exact ⟨hg.cast (by simp) (by simp [eI]), hk'⟩
      · rw [decide_eq_false h0] at hst
        repeat' (first | ((first | apply ga_dec | apply ga_ndec | apply cd_dec | apply cd_ndec | apply gd_dec | apply gd_ndec | apply ga_split | apply cd_split | apply gd_split) <;> intro hc <;> (try (simp -implicitDefEqProofs (maxSteps := 2000000) (disch := first | omega | (simp only [vz_push, vz_set, drop_size]; first | done | omega)) only [push_cast, seval, f41N0, f41N1, f41N2, hc, g3, g7, g8, hget, hb])) <;> (try (exfalso; omega))) | (simp -implicitDefEqProofs (maxSteps := 2000000) (disch := first | omega | (simp only [vz_push, vz_set, drop_size]; first | done | omega)) only [push_cast, seval, f41N0, f41N1, f41N2, g3, g7, g8, hget, hb]))
        refine ⟨_ - (j + 1), by omega, j + 1, rfl, by omega, ?_⟩ <;> (try simp only [Int.natCast_add, Int.natCast_one, cast_lit, and_true, true_and, eq_self])
        rw [hst]
        exact ⟨j1.cast (by simp) (by simp), j2⟩
  · obtain rfl : j = 5 := by omega
    repeat' (first | ((first | apply ga_dec | apply ga_ndec | apply cd_dec | apply cd_ndec | apply gd_dec | apply gd_ndec | apply ga_split | apply cd_split | apply gd_split) <;> intro hc <;> (try (simp -implicitDefEqProofs (maxSteps := 2000000) (disch := first | omega | (simp only [vz_push, vz_set, drop_size]; first | done | omega)) only [push_cast, seval, f41N0, f41N1, f41N2, hc, g3, g7, g8])) <;> (try (exfalso; omega))) | (simp -implicitDefEqProofs (maxSteps := 2000000) (disch := first | omega | (simp only [vz_push, vz_set, drop_size]; first | done | omega)) only [push_cast, seval, f41N0, f41N1, f41N2, g3, g7, g8]))
    exact j1.outm j2 (fun _ => rfl) (firm_eI .i64) (by omega)
def mixR (d : List Int) : Bool := hasR d 1 && hasR d 2 || hasR d 1 && hasR d 3 || hasR d 2 && hasR d 3
theorem smixed_ok (s : List UInt8) (hl : s.length < 1000000) : PC (XK k) 42 [tx s] (.c (.bool (mixR (decL s)))) := by
  refine PC_of fun st => ?_
  refine f42_in (hk _ (by decide)) ?_
  have hsc := scripts_ok hk s hl
  generalize decL s = d at *
  unfold mixR
  unfold rowS at hsc
  generalize hasR d 0 = b0 at *
  generalize hasR d 1 = b1 at *
  generalize hasR d 2 = b2 at *
  generalize hasR d 3 = b3 at *
  generalize hasR d 4 = b4 at *
  cases b1 <;> cases b2 <;> cases b3
  all_goals
    repeat' (first | ((first | apply ga_dec | apply ga_ndec | apply cd_dec | apply cd_ndec | apply gd_dec | apply gd_ndec | apply ga_split | apply cd_split | apply gd_split) <;> intro hc <;> (try (simp -implicitDefEqProofs (maxSteps := 2000000) (disch := first | omega | (simp only [vz_push, vz_set, drop_size]; first | done | omega)) only [push_cast, seval, f42N0, hc])) <;> (try (exfalso; omega))) | refine VC_pure (hsc) ?_ | (simp -implicitDefEqProofs (maxSteps := 2000000) (disch := first | omega | (simp only [vz_push, vz_set, drop_size]; first | done | omega)) only [push_cast, seval, f42N0]))
    exact out_bool (by (repeat first | assumption | exact KeepA.refl _ | apply KeepA.push | refine KeepA.set ?_ (by first | omega | (simp only [vz_push, vz_set, drop_size]; omega) | (have h9 := KeepA.size_le (by assumption); (try simp only [vz_push, vz_set, drop_size] at *); omega)) _ | refine KeepA.drop ?_ (by first | omega | (simp only [vz_push, vz_set, drop_size]; omega) | (have h9 := KeepA.size_le (by assumption); (try simp only [vz_push, vz_set, drop_size] at *); omega)) | refine KeepA.trans ?_ (by assumption))) rfl
def isQ (s x : List UInt8) : Bool := !(x == s) && eyeL x == eyeL s
theorem sfind_ok (s : List UInt8) (ls : List (List UInt8)) (hl : s.length < 1000) (hls : ∀ x ∈ ls, x.length < 1000) (hn : ls.length < 1000) : PC (XK k) 43 [tx s, LX ls] (.c (.int .i64 (fndL (isQ s) 0 ls))) := by
  refine PC_of fun st => ?_
  refine f43_in (hk _ (by decide)) ?_
  have s1 := stripL_len s
  repeat' (first | ((first | apply ga_dec | apply ga_ndec | apply cd_dec | apply cd_ndec | apply gd_dec | apply gd_ndec | apply ga_split | apply cd_split | apply gd_split) <;> intro hc <;> (try (simp -implicitDefEqProofs (maxSteps := 2000000) (disch := first | omega | (simp only [vz_push, vz_set, drop_size]; first | done | omega)) only [push_cast, seval, f43N0, f43N1, f43N2, hc])) <;> (try (exfalso; omega))) | refine VC_pure (sstrip_ok hk s (by omega)) ?_ | refine VC_pure (sfold_ok hk (stripL s) (by omega)) ?_ | (simp -implicitDefEqProofs (maxSteps := 2000000) (disch := first | omega | (simp only [vz_push, vz_set, drop_size]; first | done | omega)) only [push_cast, seval, f43N0, f43N1, f43N2]))
  refine VW_iter (fun m ρ s' => ∃ j : Nat, m = ls.length - j ∧ j ≤ ls.length ∧ ρ.get 0 = tx s ∧ ρ.get 5 = tx (eyeL s) ∧ ρ.get 11 = LX ls ∧ ρ.get 12 = .c (.int .i64 ls.length) ∧ ρ.get 13 = .c (.int .i64 j) ∧ (fndL (isQ s) 0 ls = fndL (isQ s) j (ls.drop j)) ∧ (s' = st)) (ls.length) ⟨0, rfl, Nat.zero_le _, by (((try simp -implicitDefEqProofs only [eA_tmp, eA_const, AEnv.get_set, ofA_get, List.getD_cons_zero, List.getD_cons_succ, ↓reduceIte, reduceCtorEq, Nat.reduceEqDiff]); try (first | (with_reducible assumption) | (with_reducible rfl) | (congr 2 <;> omega) | rfl))), by (((try simp -implicitDefEqProofs only [eA_tmp, eA_const, AEnv.get_set, ofA_get, List.getD_cons_zero, List.getD_cons_succ, ↓reduceIte, reduceCtorEq, Nat.reduceEqDiff]); try (first | (with_reducible assumption) | (with_reducible rfl) | (congr 2 <;> omega) | rfl))), by (((try simp -implicitDefEqProofs only [eA_tmp, eA_const, AEnv.get_set, ofA_get, List.getD_cons_zero, List.getD_cons_succ, ↓reduceIte, reduceCtorEq, Nat.reduceEqDiff]); try (first | (with_reducible assumption) | (with_reducible rfl) | (congr 2 <;> omega) | rfl))), by (((try simp -implicitDefEqProofs only [eA_tmp, eA_const, AEnv.get_set, ofA_get, List.getD_cons_zero, List.getD_cons_succ, ↓reduceIte, reduceCtorEq, Nat.reduceEqDiff]); try (first | (with_reducible assumption) | (with_reducible rfl) | (congr 2 <;> omega) | rfl))), by (((try simp -implicitDefEqProofs only [eA_tmp, eA_const, AEnv.get_set, ofA_get, List.getD_cons_zero, List.getD_cons_succ, ↓reduceIte, reduceCtorEq, Nat.reduceEqDiff]); try (first | (with_reducible assumption) | (with_reducible rfl) | (congr 2 <;> omega) | rfl))), (by rw [List.drop_zero]), rfl⟩ ?_
  rintro m ρ s' ⟨j, rfl, hj, g0, g5, g11, g12, g13, j1, j2⟩
  subst j2
  by_cases hc : j < ls.length
  · obtain ⟨x, hx⟩ : ∃ x, ls[j]? = some x := ⟨_, List.getElem?_eq_getElem hc⟩
    have hd : ls.drop j = x :: ls.drop (j + 1) := by rw [List.drop_eq_getElem_cons hc, (List.getElem?_eq_some_iff.1 hx).2]
    have hxl := hls x (List.mem_of_getElem? hx)
    have s2 := stripL_len x
    rw [hd, fndL] at j1
    have w1 := sstrip_ok hk x (by omega)
    have w2 := sfold_ok hk (stripL x) (by omega)
    rw [← show eyeL x = foldL (stripL x) from rfl] at w2
    unfold isQ at j1
    cases h1 : x == s
    · cases h2 : eyeL x == eyeL s
      · rw [h1, h2] at j1
        simp only [Bool.not_false, Bool.true_and, Bool.false_eq_true, if_false] at j1
        repeat' (first | ((first | apply ga_dec | apply ga_ndec | apply cd_dec | apply cd_ndec | apply gd_dec | apply gd_ndec | apply ga_split | apply cd_split | apply gd_split) <;> intro hc <;> (try (simp -implicitDefEqProofs (maxSteps := 2000000) (disch := first | omega | (simp only [vz_push, vz_set, drop_size]; first | done | omega)) only [push_cast, seval, f43N0, f43N1, f43N2, hc, g0, g5, g11, g12, g13, hx, h1, h2])) <;> (try (exfalso; omega))) | refine VC_pure (w1) ?_ | refine VC_pure (w2) ?_ | (simp -implicitDefEqProofs (maxSteps := 2000000) (disch := first | omega | (simp only [vz_push, vz_set, drop_size]; first | done | omega)) only [push_cast, seval, f43N0, f43N1, f43N2, g0, g5, g11, g12, g13, hx, h1, h2]))
        refine ⟨_ - (j + 1), by omega, j + 1, rfl, by omega, ?_⟩ <;> (try simp only [Int.natCast_add, Int.natCast_one, cast_lit, and_true, true_and, eq_self])
        exact j1
      · rw [h1, h2] at j1
        simp only [Bool.not_false, Bool.true_and, if_true] at j1
        repeat' (first | ((first | apply ga_dec | apply ga_ndec | apply cd_dec | apply cd_ndec | apply gd_dec | apply gd_ndec | apply ga_split | apply cd_split | apply gd_split) <;> intro hc <;> (try (simp -implicitDefEqProofs (maxSteps := 2000000) (disch := first | omega | (simp only [vz_push, vz_set, drop_size]; first | done | omega)) only [push_cast, seval, f43N0, f43N1, f43N2, hc, g0, g5, g11, g12, g13, hx, h1, h2])) <;> (try (exfalso; omega))) | refine VC_pure (w1) ?_ | refine VC_pure (w2) ?_ | (simp -implicitDefEqProofs (maxSteps := 2000000) (disch := first | omega | (simp only [vz_push, vz_set, drop_size]; first | done | omega)) only [push_cast, seval, f43N0, f43N1, f43N2, g0, g5, g11, g12, g13, hx, h1, h2]))
        exact out_int (by (repeat first | assumption | exact KeepA.refl _ | apply KeepA.push | refine KeepA.set ?_ (by first | omega | (simp only [vz_push, vz_set, drop_size]; omega) | (have h9 := KeepA.size_le (by assumption); (try simp only [vz_push, vz_set, drop_size] at *); omega)) _ | refine KeepA.drop ?_ (by first | omega | (simp only [vz_push, vz_set, drop_size]; omega) | (have h9 := KeepA.size_le (by assumption); (try simp only [vz_push, vz_set, drop_size] at *); omega)) | refine KeepA.trans ?_ (by assumption))) j1.symm
    · rw [h1] at j1
      simp only [Bool.not_true, Bool.false_and, Bool.false_eq_true, if_false] at j1
      repeat' (first | ((first | apply ga_dec | apply ga_ndec | apply cd_dec | apply cd_ndec | apply gd_dec | apply gd_ndec | apply ga_split | apply cd_split | apply gd_split) <;> intro hc <;> (try (simp -implicitDefEqProofs (maxSteps := 2000000) (disch := first | omega | (simp only [vz_push, vz_set, drop_size]; first | done | omega)) only [push_cast, seval, f43N0, f43N1, f43N2, hc, g0, g5, g11, g12, g13, hx, h1])) <;> (try (exfalso; omega))) | refine VC_pure (w1) ?_ | refine VC_pure (w2) ?_ | (simp -implicitDefEqProofs (maxSteps := 2000000) (disch := first | omega | (simp only [vz_push, vz_set, drop_size]; first | done | omega)) only [push_cast, seval, f43N0, f43N1, f43N2, g0, g5, g11, g12, g13, hx, h1]))
      refine ⟨_ - (j + 1), by omega, j + 1, rfl, by omega, ?_⟩ <;> (try simp only [Int.natCast_add, Int.natCast_one, cast_lit, and_true, true_and, eq_self])
      exact j1
  · obtain rfl : j = ls.length := by omega
    rw [List.drop_eq_nil_of_le (Nat.le_refl _), fndL] at j1
    repeat' (first | ((first | apply ga_dec | apply ga_ndec | apply cd_dec | apply cd_ndec | apply gd_dec | apply gd_ndec | apply ga_split | apply cd_split | apply gd_split) <;> intro hc <;> (try (simp -implicitDefEqProofs (maxSteps := 2000000) (disch := first | omega | (simp only [vz_push, vz_set, drop_size]; first | done | omega)) only [push_cast, seval, f43N0, f43N1, f43N2, hc, g0, g5, g11, g12, g13])) <;> (try (exfalso; omega))) | (simp -implicitDefEqProofs (maxSteps := 2000000) (disch := first | omega | (simp only [vz_push, vz_set, drop_size]; first | done | omega)) only [push_cast, seval, f43N0, f43N1, f43N2, g0, g5, g11, g12, g13]))
    exact out_int (by (repeat first | assumption | exact KeepA.refl _ | apply KeepA.push | refine KeepA.set ?_ (by first | omega | (simp only [vz_push, vz_set, drop_size]; omega) | (have h9 := KeepA.size_le (by assumption); (try simp only [vz_push, vz_set, drop_size] at *); omega)) _ | refine KeepA.drop ?_ (by first | omega | (simp only [vz_push, vz_set, drop_size]; omega) | (have h9 := KeepA.size_le (by assumption); (try simp only [vz_push, vz_set, drop_size] at *); omega)) | refine KeepA.trans ?_ (by assumption))) j1.symm
end
end Go.Proofs.YtpckldhojfjdmaaDoor.Ab
