/- What looks like something else: spoof.Strip, Tell, Fold. -/
import Derived.Test.YtpckldhojfjdmaaDoorG1
import Derived.Test.YtpckldhojfjdmaaDoorG3
import Derived.Test.YtpckldhojfjdmaaDoorN3
namespace Go.Proofs.YtpckldhojfjdmaaDoor.Ab
open Go.Proofs
set_option maxRecDepth 100000
set_option maxHeartbeats 4000000
set_option linter.unusedSimpArgs false
set_option linter.unusedVariables false
set_option linter.unnecessarySimpa false
set_option linter.unusedSectionVars false
theorem flatMap_le {α : Type} {g : α → List UInt8} {c : Nat} : ∀ (d : List α), (∀ x ∈ d, (g x).length ≤ c) → (d.flatMap g).length ≤ c * d.length
  | [], _ => by simp
  | x :: d, h => by
    have h1 := h x (by simp)
    have h2 := flatMap_le d fun y hy => h y (by simp [hy])
    rw [List.flatMap_cons, List.length_append, List.length_cons, Nat.mul_add]
    omega
section
variable {k : Nat → List Value → Option Value} (hk : ∀ f, f ≠ 95 → Open k f)
include hk
theorem left_ok (s : List UInt8) : PC (XK k) 70 [tx s] (.fn 96 [] [.fptr [tx s] 0]) := by
  refine PC_of fun st => ?_
  refine f70_in (hk _ (by decide)) ?_
  (try (simp -implicitDefEqProofs (maxSteps := 2000000) (disch := first | omega | (simp only [vz_push, vz_set, drop_size]; first | done | omega)) only [push_cast, seval, f70N0])) <;> (repeat' ((first | apply ga_dec | apply ga_ndec | apply cd_dec | apply cd_ndec | apply gd_dec | apply gd_ndec | apply ga_split | apply cd_split | apply gd_split) <;> intro hc <;> try (simp -implicitDefEqProofs (maxSteps := 2000000) (disch := first | omega | (simp only [vz_push, vz_set, drop_size]; first | done | omega)) only [push_cast, seval, f70N0, hc])))
  refine ⟨by (repeat first | assumption | exact KeepA.refl _ | apply KeepA.push | refine KeepA.set ?_ (by first | omega | (simp only [vz_push, vz_set, drop_size]; omega) | (have h9 := KeepA.size_le (by assumption); (try simp only [vz_push, vz_set, drop_size] at *); omega)) _ | refine KeepA.drop ?_ (by first | omega | (simp only [vz_push, vz_set, drop_size]; omega) | (have h9 := KeepA.size_le (by assumption); (try simp only [vz_push, vz_set, drop_size] at *); omega)) | refine KeepA.trans ?_ (by assumption)), Se.fn Ses.nil (Ses.cons (Se.box (b := st.size) (e := 9) (by (simp -implicitDefEqProofs (disch := first | omega | (simp only [vz_push, vz_set, drop_size]; first | done | omega)) only [drop_ne, gp_ne, gp_eq, gs_ne, gs_eq])) (by omega) (Se.c _)) Ses.nil)⟩
theorem left1_ok (s : List UInt8) (hl : s.length < 1000000) (f : Nat) (g : Int → List UInt8) (hf : ∀ v ∈ decL s, PC (XK k) f [.c (.int .i64 v)] (tx (g v)) ∧ (g v).length ≤ 80) :
    PC (XK k) 96 [.fn f [] [], .fptr [tx s] 0] (tx ((decL s).flatMap g)) := by
  refine PC_of fun st => ?_
  refine f96_in (hk _ (by decide)) ?_
  have hdl := decL_len s
  (try (simp -implicitDefEqProofs (maxSteps := 2000000) (disch := first | omega | (simp only [vz_push, vz_set, drop_size]; first | done | omega)) only [push_cast, seval, f96N0, f96N1])) <;> (repeat' ((first | apply ga_dec | apply ga_ndec | apply cd_dec | apply cd_ndec | apply gd_dec | apply gd_ndec | apply ga_split | apply cd_split | apply gd_split) <;> intro hc <;> try (simp -implicitDefEqProofs (maxSteps := 2000000) (disch := first | omega | (simp only [vz_push, vz_set, drop_size]; first | done | omega)) only [push_cast, seval, f96N0, f96N1, hc])))
  refine VW_iter (fun m ρ s' => ∃ (p : Nat) (d : List Int), m = s.length - p ∧ p ≤ s.length ∧ decL s = d ++ decL (s.drop p) ∧ ρ.get 0 = .fn f [] [] ∧ ρ.get 1 = .fptr [tx s] 0 ∧ ρ.get 4 = .ptr ⟨st.size, 0, none⟩ ∧ ρ.get 9 = .ptr ⟨st.size + 1, 0, none⟩ ∧ s'.get (st.size + 1) = some (.iter ⟨s.toArray⟩ p) ∧ Bd false st s' st.size (d.flatMap g) ∧ KeepA st s') s.length
    ⟨0, [], rfl, Nat.zero_le _, by simp, by (((try simp -implicitDefEqProofs only [eA_tmp, eA_const, AEnv.get_set, ofA_get, List.getD_cons_zero, List.getD_cons_succ, ↓reduceIte, reduceCtorEq, Nat.reduceEqDiff]); try (first | (with_reducible assumption) | (with_reducible rfl) | (congr 2 <;> omega) | rfl))), by (((try simp -implicitDefEqProofs only [eA_tmp, eA_const, AEnv.get_set, ofA_get, List.getD_cons_zero, List.getD_cons_succ, ↓reduceIte, reduceCtorEq, Nat.reduceEqDiff]); try (first | (with_reducible assumption) | (with_reducible rfl) | (congr 2 <;> omega) | rfl))), by (((try simp -implicitDefEqProofs only [eA_tmp, eA_const, AEnv.get_set, ofA_get, List.getD_cons_zero, List.getD_cons_succ, ↓reduceIte, reduceCtorEq, Nat.reduceEqDiff]); try (first | (with_reducible assumption) | (with_reducible rfl) | (congr 2 <;> omega) | rfl))), by (((try simp -implicitDefEqProofs only [eA_tmp, eA_const, AEnv.get_set, ofA_get, List.getD_cons_zero, List.getD_cons_succ, ↓reduceIte, reduceCtorEq, Nat.reduceEqDiff]); try (first | (with_reducible assumption) | (with_reducible rfl) | (congr 2 <;> omega) | rfl))), by (simp -implicitDefEqProofs (disch := first | omega | (simp only [vz_push, vz_set, drop_size]; first | done | omega)) only [drop_ne, gp_ne, gp_eq, gs_ne, gs_eq]), (Bd.new (Nat.le_refl _)).push _, by (repeat first | assumption | exact KeepA.refl _ | apply KeepA.push | refine KeepA.set ?_ (by first | omega | (simp only [vz_push, vz_set, drop_size]; omega) | (have h9 := KeepA.size_le (by assumption); (try simp only [vz_push, vz_set, drop_size] at *); omega)) _ | refine KeepA.drop ?_ (by first | omega | (simp only [vz_push, vz_set, drop_size]; omega) | (have h9 := KeepA.size_le (by assumption); (try simp only [vz_push, vz_set, drop_size] at *); omega)) | refine KeepA.trans ?_ (by assumption))⟩ ?_
  rintro m ρ s' ⟨p, d, rfl, hp, hd, g0, g1, g4, g9, j1, j2, j3⟩
  have hsz := VS.lt_of_get j1
  have hdd := congrArg List.length hd
  rw [List.length_append] at hdd
  have hfl := flatMap_le (g := g) (c := 80) d (fun v hv => (hf v (by rw [hd]; simp [hv])).2)
  by_cases hc : p < s.length
  · have hne : s.drop p ≠ [] := fun e => by have := List.drop_eq_nil_iff.1 e; omega
    have hdc := decode_at s p hc
    have hos := oneL_szpos hne
    rw [List.length_drop] at hos
    have hon := one_ok hk (s.drop p) hne (by rw [List.length_drop]; omega)
    rw [decL_cons hne, List.drop_drop] at hd
    have hfv := hf (oneL (s.drop p)).1 (by rw [hd]; simp)
    have htk : List.take s.length s = s := List.take_length
    generalize (runeOf (oneL (s.drop p)).1).toNat = r0 at *
    generalize (oneL (s.drop p)).1 = v at *
    generalize (oneL (s.drop p)).2 = n at *
    repeat' (first | ((first | apply ga_dec | apply ga_ndec | apply cd_dec | apply cd_ndec | apply gd_dec | apply gd_ndec | apply ga_split | apply cd_split | apply gd_split) <;> intro hc <;> (try (simp -implicitDefEqProofs (maxSteps := 2000000) (disch := first | omega | (simp only [vz_push, vz_set, drop_size]; first | done | omega)) only [push_cast, seval, f96N0, f96N1, hc, g0, g1, g4, g9, j1, hdc, htk])) <;> (try (exfalso; omega))) | refine VC_pure (hon) ?_ | refine VC_pure (hfv.1) ?_ | (simp -implicitDefEqProofs (maxSteps := 2000000) (disch := first | omega | (simp only [vz_push, vz_set, drop_size]; first | done | omega)) only [push_cast, seval, f96N0, f96N1, g0, g1, g4, g9, j1, hdc, htk]))
    refine sbWrite_ok hk (j2.set j1 (by omega) (fun r hr => by cases hr) _) (g v) (by omega) ?_
    intro s2 r q1 q2 q3
    (try (simp -implicitDefEqProofs (maxSteps := 2000000) (disch := first | omega | (simp only [vz_push, vz_set, drop_size]; first | done | omega)) only [push_cast, seval, f96N0, f96N1, g0, g1, g4, g9])) <;> (repeat' ((first | apply ga_dec | apply ga_ndec | apply cd_dec | apply cd_ndec | apply gd_dec | apply gd_ndec | apply ga_split | apply cd_split | apply gd_split) <;> intro hc <;> try (simp -implicitDefEqProofs (maxSteps := 2000000) (disch := first | omega | (simp only [vz_push, vz_set, drop_size]; first | done | omega)) only [push_cast, seval, f96N0, f96N1, hc, g0, g1, g4, g9])))
    refine ⟨_, by omega, p + n, d ++ [v], rfl, by omega, by rw [hd]; simp, q2.get (by (simp -implicitDefEqProofs (disch := first | omega | (simp only [vz_push, vz_set, drop_size]; first | done | omega)) only [drop_ne, gp_ne, gp_eq, gs_ne, gs_eq])) (by omega) (fun r hr => by cases hr), ?_, q3 (by (repeat first | assumption | exact KeepA.refl _ | apply KeepA.push | refine KeepA.set ?_ (by first | omega | (simp only [vz_push, vz_set, drop_size]; omega) | (have h9 := KeepA.size_le (by assumption); (try simp only [vz_push, vz_set, drop_size] at *); omega)) _ | refine KeepA.drop ?_ (by first | omega | (simp only [vz_push, vz_set, drop_size]; omega) | (have h9 := KeepA.size_le (by assumption); (try simp only [vz_push, vz_set, drop_size] at *); omega)) | refine KeepA.trans ?_ (by assumption)))⟩
    rw [List.flatMap_append]
    simpa using q1
  · obtain rfl : p = s.length := by omega
    rw [List.drop_eq_nil_of_le (Nat.le_refl _), decL_nil, List.append_nil] at hd
    rw [← hd] at j2 hfl
    repeat' (first | ((first | apply ga_dec | apply ga_ndec | apply cd_dec | apply cd_ndec | apply gd_dec | apply gd_ndec | apply ga_split | apply cd_split | apply gd_split) <;> intro hc <;> (try (simp -implicitDefEqProofs (maxSteps := 2000000) (disch := first | omega | (simp only [vz_push, vz_set, drop_size]; first | done | omega)) only [push_cast, seval, f96N0, f96N1, hc, g0, g1, g4, g9, j1, Nat.lt_irrefl])) <;> (try (exfalso; omega))) | (simp -implicitDefEqProofs (maxSteps := 2000000) (disch := first | omega | (simp only [vz_push, vz_set, drop_size]; first | done | omega)) only [push_cast, seval, f96N0, f96N1, g0, g1, g4, g9, j1, Nat.lt_irrefl]))
    refine sbString_ok hk j2 (.inl rfl) (by omega) ?_
    intro s2 q1 q2
    (try (simp -implicitDefEqProofs (maxSteps := 2000000) (disch := first | omega | (simp only [vz_push, vz_set, drop_size]; first | done | omega)) only [push_cast, seval, f96N0, f96N1])) <;> (repeat' ((first | apply ga_dec | apply ga_ndec | apply cd_dec | apply cd_ndec | apply gd_dec | apply gd_ndec | apply ga_split | apply cd_split | apply gd_split) <;> intro hc <;> try (simp -implicitDefEqProofs (maxSteps := 2000000) (disch := first | omega | (simp only [vz_push, vz_set, drop_size]; first | done | omega)) only [push_cast, seval, f96N0, f96N1, hc])))
    exact out_tx (q2 j3) rfl
end
end Go.Proofs.YtpckldhojfjdmaaDoor.Ab
