/- Trails: a new trail. -/
import Derived.Test.YtndedkpcfjnecaaO6
namespace Go.Proofs.Ytndedkpcfjnecaa.Ab
open Go.Proofs
set_option maxRecDepth 100000
set_option maxHeartbeats 4000000
set_option linter.unusedSimpArgs false
set_option linter.unusedVariables false
set_option linter.unnecessarySimpa false
set_option linter.unusedSectionVars false
theorem Se.ptrN {X : Prg} {P N : Nat → Prop} {vs : VS} {a : Addr} (h : N a.block) : Se X P N vs (.ptr a) (.ptr a) := fun d s x hr q => by
  cases q with | ptr _ k hk =>
  exact .ptr a k (by rw [fz_phiN h]; exact hk)
/-- A fresh row, told anew. -/
theorem Cut.repush {X : Prg} {vs : VS} {cs cs1 : List AV} {e ep fr : Nat} {str : Bool} (h : Ses X (vs.size + 1 ≤ ·) (· < vs.size + 1) (vs.push (.own ⟨cs, e, ep, fr, str⟩)) cs cs1) : Cut X (vs.size + 1) vs (vs.push (.own ⟨cs, e, ep, fr, str⟩)) (vs.push (.own ⟨cs1, e, ep, fr, str⟩)) where
  lo := Nat.le_succ _
  hi := Nat.le_refl _
  sz := rfl
  ver b hb := rfl
  row b o1 hb ho := by
    by_cases e : b = vs.size
    · subst e
      rw [gp_eq rfl] at ho
      cases ho
      refine .inr ⟨_, gp_eq rfl, fun d s o' hr q => ?_⟩
      cases q with | own _ r' q =>
      exact .own _ r' ⟨h d s _ hr q.cs, q.elem, q.ep, q.frz, q.str⟩
    · rw [gp_ne e] at ho
      exact .inl ⟨by omega, by rw [gp_ne e]; exact ho, rfl, ho⟩
section
variable {k : Nat → List Value → Option Value} (hk : ∀ f, f ≠ 69 → Open k f)
include hk
theorem new_ok {s : VS} {most : Int} (h1 : 1 ≤ most) (h2 : most ≤ 1000) {K : AV → VS → Prop} (hK : ∀ s', Trl s s' s.size ([], 0) [] [] most → KeepA s s' → s'.size = s.size + 1 → K (.tup [.ptr ⟨s.size, 0, none⟩, .c (.int .i64 0)]) s') : VC (XK k) 37 [.c (.int .i64 most)] s K := by
  refine VC_cut (Q := K) ?_
  refine f37_in (hk _ (by decide)) ?_
  (try (simp -implicitDefEqProofs (maxSteps := 2000000) (disch := first | omega | (simp only [vz_push, vz_set, drop_size]; first | done | omega)) only [push_cast, seval, f37N0, f37N1, h1, h2])) <;> (repeat' ((first | apply ga_dec | apply ga_ndec | apply cd_dec | apply cd_ndec | apply gd_dec | apply gd_ndec | apply ga_split | apply cd_split | apply gd_split) <;> intro hc <;> try (simp -implicitDefEqProofs (maxSteps := 2000000) (disch := first | omega | (simp only [vz_push, vz_set, drop_size]; first | done | omega)) only [push_cast, seval, f37N0, f37N1, hc, h1, h2])))
  · exfalso; omega
  rotate_left
  · exfalso; omega
  refine ⟨s.size + 1, .tup [.ptr ⟨s.size, 0, none⟩, .c (.int .i64 0)], s.push (.own ⟨[LS [], .c (.int .i64 0), .c (.slice none 0 0), .c (.slice none 0 0), .c (.int .i64 most)], 112, 0, 0, false⟩), Cut.repush ?_, ?_, ?_⟩
  · exact Ses.cons (Se.nil 2) (Ses.firm (by simp [Firm.c]))
  · exact Se.tup (Ses.cons (Se.ptrN (Nat.lt_succ_self _)) (Ses.cons (Se.c _) Ses.nil))
  · exact hK _ ⟨_, _, gp_eq rfl, Nat.le_refl _, .nil, .nil, fun c h => by simp [blkOf] at h⟩ ((KeepA.refl s).push _) rfl
theorem new_bad {s : VS} {most : Int} (h : most < 1 ∨ 1000 < most) {K : AV → VS → Prop} (hK : K (.tup [.c (.pointer none), .c (.int .i64 3)]) s) : VC (XK k) 37 [.c (.int .i64 most)] s K := by
  refine f37_in (hk _ (by decide)) ?_
  by_cases h1 : most < 1
  · (try (simp -implicitDefEqProofs (maxSteps := 2000000) (disch := first | omega | (simp only [vz_push, vz_set, drop_size]; first | done | omega)) only [push_cast, seval, f37N0, f37N1, h1])) <;> (repeat' ((first | apply ga_dec | apply ga_ndec | apply cd_dec | apply cd_ndec | apply gd_dec | apply gd_ndec | apply ga_split | apply cd_split | apply gd_split) <;> intro hc <;> try (simp -implicitDefEqProofs (maxSteps := 2000000) (disch := first | omega | (simp only [vz_push, vz_set, drop_size]; first | done | omega)) only [push_cast, seval, f37N0, f37N1, hc, h1])))
    all_goals first | exact hK | (exfalso; omega)
  · have h2 : 1000 < most := by omega
    (try (simp -implicitDefEqProofs (maxSteps := 2000000) (disch := first | omega | (simp only [vz_push, vz_set, drop_size]; first | done | omega)) only [push_cast, seval, f37N0, f37N1, h1, h2])) <;> (repeat' ((first | apply ga_dec | apply ga_ndec | apply cd_dec | apply cd_ndec | apply gd_dec | apply gd_ndec | apply ga_split | apply cd_split | apply gd_split) <;> intro hc <;> try (simp -implicitDefEqProofs (maxSteps := 2000000) (disch := first | omega | (simp only [vz_push, vz_set, drop_size]; first | done | omega)) only [push_cast, seval, f37N0, f37N1, hc, h1, h2])))
    all_goals first | exact hK | (exfalso; omega)
end
end Go.Proofs.Ytndedkpcfjnecaa.Ab
