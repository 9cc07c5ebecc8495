/- Texts as values: the walks of utf.One and of the document's Decode. -/
import Derived.Test.YticllcglldbffaaG2
import Derived.Test.YticllcglldbffaaL1
import Derived.Test.YticllcglldbffaaDS
import Derived.Test.YticllcglldbffaaG6
namespace Go.Proofs.Yticllcglldbffaa.Ab
open Go.Proofs
set_option maxRecDepth 100000
set_option maxHeartbeats 4000000
set_option linter.unusedSimpArgs false
set_option linter.unusedVariables false
set_option linter.unnecessarySimpa false
set_option linter.unusedSectionVars false
theorem addB_rng : ∀ (m : List UInt8) (v : Int), m.length ≤ 3 → -1000 ≤ v → v ≤ 1000 → -300000000 ≤ m.foldl addB v ∧ m.foldl addB v ≤ 300000000 := by
  intro m v hm h1 h2
  rcases m with _ | ⟨a, _ | ⟨b, _ | ⟨c, _ | ⟨d, m⟩⟩⟩⟩
  · simp; omega
  · have := a.toNat_lt
    simp [addB]; omega
  · have := a.toNat_lt
    have := b.toNat_lt
    simp [addB]; omega
  · have := a.toNat_lt
    have := b.toNat_lt
    have := c.toNat_lt
    simp [addB]; omega
  · simp at hm
theorem szB_le (a : UInt8) : szB a ≤ 4 := by unfold szB; (repeat' split) <;> omega
section
variable {k : Nat → List Value → Option Value} (hk : ∀ f, f ≠ 32 → f ≠ 51 → Open k f)
include hk
omit hk in
theorem wrong_enc : encV 65533 = [239, 191, 189] := by
  unfold encV
  rw [if_neg (by omega), if_neg (by omega), if_pos (by omega)]
  rfl
omit hk in
theorem oneL_wrong {s : List UInt8} (h : s ≠ []) : s.take 3 = [239, 191, 189] ↔ (oneL s).1 = 65533 := by
  have hw : oneL (encV 65533 ++ s.drop 3) = (65533, 3) := by rw [oneL_enc (by omega) (by omega) (by omega), wrong_enc]; rfl
  constructor
  · intro h3
    have : s = encV 65533 ++ s.drop 3 := by
      rw [wrong_enc, ← h3, List.take_append_drop]
    rw [this, hw]
  · intro h3
    rcases oneL_cases s h with ⟨v, r, h0, h1, h2, hs, ho⟩ | ⟨a, r, hs, ha, hc, ho⟩
    · rw [ho] at h3
      simp only at h3
      subst h3
      rw [hs, wrong_enc]
      rfl
    · rw [ho] at h3
      simp only at h3
      have := a.toNat_lt
      omega
theorem value_ok (s : List UInt8) (h : s ≠ []) (hl : s.length < 1000000000) : PC (XK k) 49 [tx s, .c (.int .i32 (runeOf (oneL s).1))] (.c (.int .i64 (oneL s).1)) := by
  refine PC_of fun st => ?_
  refine f49_in (hk _ (by decide) (by decide)) ?_
  have hw := oneL_wrong h
  rcases oneL_cases s h with ⟨v, r, h0, h1, h2, hs, ho⟩ | ⟨a, r, hs, ha, hc, ho⟩
  · rw [ho] at hw ⊢
    have hr : runeOf v = v := by unfold runeOf; rw [if_neg (by omega)]
    simp only [hr]
    by_cases hv : v = 65533
    · have h3 : (s.take 3 = [239, 191, 189]) = True := eq_true (hw.2 hv)
      subst hv
      repeat' (first | ((first | apply ga_dec | apply ga_ndec | apply cd_dec | apply cd_ndec | apply gd_dec | apply gd_ndec | apply ga_split | apply cd_split | apply gd_split) <;> intro hc <;> (try (simp -implicitDefEqProofs (maxSteps := 2000000) (disch := first | omega | (simp only [vz_push, vz_set, drop_size]; first | done | omega)) only [push_cast, seval, f49N0, f49N1, hc, h3])) <;> (try (exfalso; omega))) | refine VC_pure (hasPrefix_ok hk s [239, 191, 189] hl (by simp)) ?_ | (simp -implicitDefEqProofs (maxSteps := 2000000) (disch := first | omega | (simp only [vz_push, vz_set, drop_size]; first | done | omega)) only [push_cast, seval, f49N0, f49N1, h3]))
      exact out_int (by (repeat first | assumption | exact KeepA.refl _ | apply KeepA.push | refine KeepA.set ?_ (by first | omega | (simp only [vz_push, vz_set, drop_size]; omega) | (have h9 := KeepA.size_le (by assumption); (try simp only [vz_push, vz_set, drop_size] at *); omega)) _ | refine KeepA.drop ?_ (by first | omega | (simp only [vz_push, vz_set, drop_size]; omega) | (have h9 := KeepA.size_le (by assumption); (try simp only [vz_push, vz_set, drop_size] at *); omega)) | refine KeepA.trans ?_ (by assumption))) rfl
    · repeat' (first | ((first | apply ga_dec | apply ga_ndec | apply cd_dec | apply cd_ndec | apply gd_dec | apply gd_ndec | apply ga_split | apply cd_split | apply gd_split) <;> intro hc <;> (try (simp -implicitDefEqProofs (maxSteps := 2000000) (disch := first | omega | (simp only [vz_push, vz_set, drop_size]; first | done | omega)) only [push_cast, seval, f49N0, f49N1, hc])) <;> (try (exfalso; omega))) | refine VC_pure (hasPrefix_ok hk s [239, 191, 189] hl (by simp)) ?_ | (simp -implicitDefEqProofs (maxSteps := 2000000) (disch := first | omega | (simp only [vz_push, vz_set, drop_size]; first | done | omega)) only [push_cast, seval, f49N0, f49N1]))
      exact out_int (by (repeat first | assumption | exact KeepA.refl _ | apply KeepA.push | refine KeepA.set ?_ (by first | omega | (simp only [vz_push, vz_set, drop_size]; omega) | (have h9 := KeepA.size_le (by assumption); (try simp only [vz_push, vz_set, drop_size] at *); omega)) _ | refine KeepA.drop ?_ (by first | omega | (simp only [vz_push, vz_set, drop_size]; omega) | (have h9 := KeepA.size_le (by assumption); (try simp only [vz_push, vz_set, drop_size] at *); omega)) | refine KeepA.trans ?_ (by assumption))) rfl
  · rw [ho] at hw ⊢
    have hal := a.toNat_lt
    have hr : runeOf (1114112 + (a.toNat : Int)) = 65533 := by unfold runeOf; rw [if_pos (by omega)]
    have h3 : (s.take 3 = [239, 191, 189]) = False := eq_false (fun e => by have := hw.1 e; simp only at this; omega)
    simp only [hr]
    have hi : s[0]? = some a := by rw [hs]; rfl
    have hpos : 0 < s.length := List.length_pos_iff.2 h
    repeat' (first | ((first | apply ga_dec | apply ga_ndec | apply cd_dec | apply cd_ndec | apply gd_dec | apply gd_ndec | apply ga_split | apply cd_split | apply gd_split) <;> intro hc <;> (try (simp -implicitDefEqProofs (maxSteps := 2000000) (disch := first | omega | (simp only [vz_push, vz_set, drop_size]; first | done | omega)) only [push_cast, seval, f49N0, f49N1, hc, h3, hi])) <;> (try (exfalso; omega))) | refine VC_pure (hasPrefix_ok hk s [239, 191, 189] hl (by simp)) ?_ | (simp -implicitDefEqProofs (maxSteps := 2000000) (disch := first | omega | (simp only [vz_push, vz_set, drop_size]; first | done | omega)) only [push_cast, seval, f49N0, f49N1, h3, hi]))
    exact out_int (by (repeat first | assumption | exact KeepA.refl _ | apply KeepA.push | refine KeepA.set ?_ (by first | omega | (simp only [vz_push, vz_set, drop_size]; omega) | (have h9 := KeepA.size_le (by assumption); (try simp only [vz_push, vz_set, drop_size] at *); omega)) _ | refine KeepA.drop ?_ (by first | omega | (simp only [vz_push, vz_set, drop_size]; omega) | (have h9 := KeepA.size_le (by assumption); (try simp only [vz_push, vz_set, drop_size] at *); omega)) | refine KeepA.trans ?_ (by assumption))) rfl
theorem runeLen_ok (v : Int) (h0 : 0 ≤ v) (h1 : v ≤ 1114111) (h2 : v < 55296 ∨ 57343 < v) : PC (XK k) 50 [.c (.int .i32 v)] (.c (.int .i64 (encV v).length)) := by
  refine PC_of fun s => ?_
  refine f50_in (hk _ (by decide) (by decide)) ?_
  have hl := encV_len v h0 h1
  (try (simp -implicitDefEqProofs (maxSteps := 2000000) (disch := first | omega | (simp only [vz_push, vz_set, drop_size]; first | done | omega)) only [push_cast, seval, f50N0, f50N1, f50N2, f50N3])) <;> (repeat' ((first | apply ga_dec | apply ga_ndec | apply cd_dec | apply cd_ndec | apply gd_dec | apply gd_ndec | apply ga_split | apply cd_split | apply gd_split) <;> intro hc <;> try (simp -implicitDefEqProofs (maxSteps := 2000000) (disch := first | omega | (simp only [vz_push, vz_set, drop_size]; first | done | omega)) only [push_cast, seval, f50N0, f50N1, f50N2, f50N3, hc])))
  all_goals
    refine out_int (by (repeat first | assumption | exact KeepA.refl _ | apply KeepA.push | refine KeepA.set ?_ (by first | omega | (simp only [vz_push, vz_set, drop_size]; omega) | (have h9 := KeepA.size_le (by assumption); (try simp only [vz_push, vz_set, drop_size] at *); omega)) _ | refine KeepA.drop ?_ (by first | omega | (simp only [vz_push, vz_set, drop_size]; omega) | (have h9 := KeepA.size_le (by assumption); (try simp only [vz_push, vz_set, drop_size] at *); omega)) | refine KeepA.trans ?_ (by assumption))) ?_
    rw [hl]
    (repeat' split) <;> omega
theorem one_ok (s : List UInt8) (h : s ≠ []) (hl : s.length < 1000000000) : PC (XK k) 38 [tx s] (.tup [.c (.int .i64 (oneL s).1), .c (.int .i64 (oneL s).2)]) := by
  refine PC_of fun st => ?_
  refine f38_in (hk _ (by decide) (by decide)) ?_
  have hpos : 0 < s.length := List.length_pos_iff.2 h
  have hd := decode_at s 0 hpos
  rw [List.drop_zero] at hd
  have hrn := runeOf_nat h
  have hv := value_ok hk s h hl
  (try (simp -implicitDefEqProofs (maxSteps := 2000000) (disch := first | omega | (simp only [vz_push, vz_set, drop_size]; first | done | omega)) only [push_cast, seval, f38N0, f38N1, f38N2])) <;> (repeat' ((first | apply ga_dec | apply ga_ndec | apply cd_dec | apply cd_ndec | apply gd_dec | apply gd_ndec | apply ga_split | apply cd_split | apply gd_split) <;> intro hc <;> try (simp -implicitDefEqProofs (maxSteps := 2000000) (disch := first | omega | (simp only [vz_push, vz_set, drop_size]; first | done | omega)) only [push_cast, seval, f38N0, f38N1, f38N2, hc])))
  refine VW_iter (fun m ρ s' => ρ.get 0 = tx s ∧ ρ.get 8 = .ptr ⟨st.size, 0, none⟩ ∧ s'.get st.size = some (.iter ⟨s.toArray⟩ 0) ∧ KeepA st s') 1 ⟨by (((try simp -implicitDefEqProofs only [eA_tmp, eA_const, AEnv.get_set, ofA_get, List.getD_cons_zero, List.getD_cons_succ, ↓reduceIte, reduceCtorEq, Nat.reduceEqDiff]); try (first | (with_reducible assumption) | (with_reducible rfl) | (congr 2 <;> omega) | rfl))), by (((try simp -implicitDefEqProofs only [eA_tmp, eA_const, AEnv.get_set, ofA_get, List.getD_cons_zero, List.getD_cons_succ, ↓reduceIte, reduceCtorEq, Nat.reduceEqDiff]); try (first | (with_reducible assumption) | (with_reducible rfl) | (congr 2 <;> omega) | rfl))), by (simp -implicitDefEqProofs (disch := first | omega | (simp only [vz_push, vz_set, drop_size]; first | done | omega)) only [drop_ne, gp_ne, gp_eq, gs_ne, gs_eq]), by (repeat first | assumption | exact KeepA.refl _ | apply KeepA.push | refine KeepA.set ?_ (by first | omega | (simp only [vz_push, vz_set, drop_size]; omega) | (have h9 := KeepA.size_le (by assumption); (try simp only [vz_push, vz_set, drop_size] at *); omega)) _ | refine KeepA.drop ?_ (by first | omega | (simp only [vz_push, vz_set, drop_size]; omega) | (have h9 := KeepA.size_le (by assumption); (try simp only [vz_push, vz_set, drop_size] at *); omega)) | refine KeepA.trans ?_ (by assumption))⟩ ?_
  rintro m ρ s' ⟨g0, g8, j1, j2⟩
  have hsz := VS.lt_of_get j1
  rcases oneL_cases s h with ⟨v, r, h0, h1, h2, hs, ho⟩ | ⟨a, r, hs, ha, hc, ho⟩
  · rw [ho] at hd hrn hv ⊢
    have hr : runeOf v = v := by unfold runeOf; rw [if_neg (by omega)]
    simp only [hr] at hd hrn hv
    repeat' (first | ((first | apply ga_dec | apply ga_ndec | apply cd_dec | apply cd_ndec | apply gd_dec | apply gd_ndec | apply ga_split | apply cd_split | apply gd_split) <;> intro hc <;> (try (simp -implicitDefEqProofs (maxSteps := 2000000) (disch := first | omega | (simp only [vz_push, vz_set, drop_size]; first | done | omega)) only [push_cast, seval, f38N0, f38N1, f38N2, hc, g0, g8, j1, hd, hrn])) <;> (try (exfalso; omega))) | refine VC_pure (hv) ?_ | refine VC_pure (runeLen_ok hk v h0 h1 h2) ?_ | (simp -implicitDefEqProofs (maxSteps := 2000000) (disch := first | omega | (simp only [vz_push, vz_set, drop_size]; first | done | omega)) only [push_cast, seval, f38N0, f38N1, f38N2, g0, g8, j1, hd, hrn]))
    exact ⟨by (repeat first | assumption | exact KeepA.refl _ | apply KeepA.push | refine KeepA.set ?_ (by first | omega | (simp only [vz_push, vz_set, drop_size]; omega) | (have h9 := KeepA.size_le (by assumption); (try simp only [vz_push, vz_set, drop_size] at *); omega)) _ | refine KeepA.drop ?_ (by first | omega | (simp only [vz_push, vz_set, drop_size]; omega) | (have h9 := KeepA.size_le (by assumption); (try simp only [vz_push, vz_set, drop_size] at *); omega)) | refine KeepA.trans ?_ (by assumption)), Se.firm (Firm.tup (all_cons (Firm.c _) (all_cons (Firm.c _) all_nil)))⟩
  · rw [ho] at hd hrn hv ⊢
    have hal := a.toNat_lt
    have hr : runeOf (1114112 + (a.toNat : Int)) = 65533 := by unfold runeOf; rw [if_pos (by omega)]
    simp only [hr] at hd hrn hv
    obtain ⟨r0, hr0⟩ : ∃ r0 : Nat, r0 = 65533 := ⟨_, rfl⟩
    have hd' : Utf8.decode ⟨s.toArray⟩ 0 = (r0, 1) := by rw [hr0]; exact hd
    have hv : PC (XK k) 49 [tx s, .c (.int .i32 (r0 : Int))] (.c (.int .i64 (1114112 + (a.toNat : Int)))) := by rw [hr0]; exact hv
    repeat' (first | ((first | apply ga_dec | apply ga_ndec | apply cd_dec | apply cd_ndec | apply gd_dec | apply gd_ndec | apply ga_split | apply cd_split | apply gd_split) <;> intro hc <;> (try (simp -implicitDefEqProofs (maxSteps := 2000000) (disch := first | omega | (simp only [vz_push, vz_set, drop_size]; first | done | omega)) only [push_cast, seval, f38N0, f38N1, f38N2, hc, g0, g8, j1, hd'])) <;> (try (exfalso; omega))) | refine VC_pure (hv) ?_ | (simp -implicitDefEqProofs (maxSteps := 2000000) (disch := first | omega | (simp only [vz_push, vz_set, drop_size]; first | done | omega)) only [push_cast, seval, f38N0, f38N1, f38N2, g0, g8, j1, hd']))
    exact ⟨by (repeat first | assumption | exact KeepA.refl _ | apply KeepA.push | refine KeepA.set ?_ (by first | omega | (simp only [vz_push, vz_set, drop_size]; omega) | (have h9 := KeepA.size_le (by assumption); (try simp only [vz_push, vz_set, drop_size] at *); omega)) _ | refine KeepA.drop ?_ (by first | omega | (simp only [vz_push, vz_set, drop_size]; omega) | (have h9 := KeepA.size_le (by assumption); (try simp only [vz_push, vz_set, drop_size] at *); omega)) | refine KeepA.trans ?_ (by assumption)), Se.firm (Firm.tup (all_cons (Firm.c _) (all_cons (Firm.c _) all_nil)))⟩
end
end Go.Proofs.Yticllcglldbffaa.Ab
