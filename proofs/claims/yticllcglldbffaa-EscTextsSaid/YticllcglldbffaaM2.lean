/- Numbers as texts, and read: the walks; the laws NumDecs, NumHexes. -/
import Derived.Test.YticllcglldbffaaN2
import Derived.Test.YticllcglldbffaaM1
import Derived.Test.YticllcglldbffaaG6
namespace Go.Proofs.Yticllcglldbffaa.Ab
open Go.Proofs
set_option maxRecDepth 100000
set_option maxHeartbeats 4000000
set_option linter.unusedSimpArgs false
set_option linter.unusedVariables false
set_option linter.unnecessarySimpa false
set_option linter.unusedSectionVars false
def sgn : List UInt8 := [48, 49, 50, 51, 52, 53, 54, 55, 56, 57, 65, 66, 67, 68, 69, 70]
def idxB (b : Nat) (c : UInt8) : Int := match dof b c with
  | some d => (d : Int)
  | none => -1
theorem idx10_all : ((List.range 256).all fun n => Lib.indexByte (sgn.take 10) (UInt8.ofNat n) == idxB 10 (UInt8.ofNat n)) = true := by kernel_rfl
theorem idx16_all : ((List.range 256).all fun n => Lib.indexByte sgn (UInt8.ofNat n) == idxB 16 (UInt8.ofNat n)) = true := by kernel_rfl
theorem idx10 (c : UInt8) : Lib.indexByte (sgn.take 10) c = idxB 10 c := by
  have := List.all_eq_true.1 idx10_all c.toNat (List.mem_range.2 c.toNat_lt)
  rw [UInt8.ofNat_toNat] at this
  simpa using this
theorem idx16 (c : UInt8) : Lib.indexByte sgn c = idxB 16 c := by
  have := List.all_eq_true.1 idx16_all c.toNat (List.mem_range.2 c.toNat_lt)
  rw [UInt8.ofNat_toNat] at this
  simpa using this
/-- What reading digits answers. -/
def rdrR (b most : Nat) (l : List UInt8) : Option Nat := if l = [] then none else rdr b most 0 l
def rdrV (o : Option Nat) : AV := match o with
  | some v => .tup [.c (.int .u64 v), .c (.bool true)]
  | none => .tup [.c (.int .u64 0), .c (.bool false)]
section
variable {k : Nat → List Value → Option Value} (hk : ∀ f, f ≠ 32 → f ≠ 51 → Open k f)
include hk
theorem reader_ok (b m : Int) : PC (XK k) 48 [.c (.int .u64 b), .c (.int .u64 m)] (.fn 55 [] [.fptr [.c (.int .u64 b)] 0, .fptr [.c (.int .u64 m)] 0]) := by
  refine PC_of fun s => ?_
  refine f48_in (hk _ (by decide) (by decide)) ?_
  (try (simp -implicitDefEqProofs (maxSteps := 2000000) (disch := first | omega | (simp only [vz_push, vz_set, drop_size]; first | done | omega)) only [push_cast, seval, f48N0])) <;> (repeat' ((first | apply ga_dec | apply ga_ndec | apply cd_dec | apply cd_ndec | apply gd_dec | apply gd_ndec | apply ga_split | apply cd_split | apply gd_split) <;> intro hc <;> try (simp -implicitDefEqProofs (maxSteps := 2000000) (disch := first | omega | (simp only [vz_push, vz_set, drop_size]; first | done | omega)) only [push_cast, seval, f48N0, hc])))
  refine ⟨by (repeat first | assumption | exact KeepA.refl _ | apply KeepA.push | refine KeepA.set ?_ (by first | omega | (simp only [vz_push, vz_set, drop_size]; omega) | (have h9 := KeepA.size_le (by assumption); (try simp only [vz_push, vz_set, drop_size] at *); omega)) _ | refine KeepA.drop ?_ (by first | omega | (simp only [vz_push, vz_set, drop_size]; omega) | (have h9 := KeepA.size_le (by assumption); (try simp only [vz_push, vz_set, drop_size] at *); omega)) | refine KeepA.trans ?_ (by assumption)), Se.fn Ses.nil (Ses.cons (Se.box (b := s.size) (e := 67) (by (simp -implicitDefEqProofs (disch := first | omega | (simp only [vz_push, vz_set, drop_size]; first | done | omega)) only [drop_ne, gp_ne, gp_eq, gs_ne, gs_eq])) (by omega) (Se.c _)) (Ses.cons (Se.box (b := s.size + 1) (e := 67) (by (simp -implicitDefEqProofs (disch := first | omega | (simp only [vz_push, vz_set, drop_size]; first | done | omega)) only [drop_ne, gp_ne, gp_eq, gs_ne, gs_eq])) (by omega) (Se.c _)) Ses.nil))⟩
theorem reader1_ok (b most : Nat) (hb : b = 10 ∨ b = 16) (hm : most < 18446744073709551616) (hm1 : 16 ≤ most) (l : List UInt8) (hl : l.length < 1000000) : PC (XK k) 55 [tx l, .fptr [.c (.int .u64 b)] 0, .fptr [.c (.int .u64 most)] 0] (rdrV (rdrR b most l)) := by
  refine PC_of fun s => ?_
  refine f55_in (hk _ (by decide) (by decide)) ?_
  have hi := indexByte_ok hk
  by_cases he : l = []
  · subst he
    (try (simp -implicitDefEqProofs (maxSteps := 2000000) (disch := first | omega | (simp only [vz_push, vz_set, drop_size]; first | done | omega)) only [push_cast, seval, f55N0, f55N1, f55N2, f55N3])) <;> (repeat' ((first | apply ga_dec | apply ga_ndec | apply cd_dec | apply cd_ndec | apply gd_dec | apply gd_ndec | apply ga_split | apply cd_split | apply gd_split) <;> intro hc <;> try (simp -implicitDefEqProofs (maxSteps := 2000000) (disch := first | omega | (simp only [vz_push, vz_set, drop_size]; first | done | omega)) only [push_cast, seval, f55N0, f55N1, f55N2, f55N3, hc])))
    exact out_firm (by (repeat first | assumption | exact KeepA.refl _ | apply KeepA.push | refine KeepA.set ?_ (by first | omega | (simp only [vz_push, vz_set, drop_size]; omega) | (have h9 := KeepA.size_le (by assumption); (try simp only [vz_push, vz_set, drop_size] at *); omega)) _ | refine KeepA.drop ?_ (by first | omega | (simp only [vz_push, vz_set, drop_size]; omega) | (have h9 := KeepA.size_le (by assumption); (try simp only [vz_push, vz_set, drop_size] at *); omega)) | refine KeepA.trans ?_ (by assumption))) rfl (Firm.tup (all_cons (Firm.c _) (all_cons (Firm.c _) all_nil)))
  · have hbe : (l == []) = false := by simpa using he
    have hR : rdrR b most l = rdr b most 0 l := by unfold rdrR; rw [if_neg he]
    rw [hR]
    repeat' (first | ((first | apply ga_dec | apply ga_ndec | apply cd_dec | apply cd_ndec | apply gd_dec | apply gd_ndec | apply ga_split | apply cd_split | apply gd_split) <;> intro hc <;> (try (simp -implicitDefEqProofs (maxSteps := 2000000) (disch := first | omega | (simp only [vz_push, vz_set, drop_size]; first | done | omega)) only [push_cast, seval, f55N0, f55N1, f55N2, f55N3, hc, hbe])) <;> (try (exfalso; omega))) | (simp -implicitDefEqProofs (maxSteps := 2000000) (disch := first | omega | (simp only [vz_push, vz_set, drop_size]; first | done | omega)) only [push_cast, seval, f55N0, f55N1, f55N2, f55N3, hbe]))
    refine VW_iter (fun m ρ s' => ∃ (i u : Nat), m = l.length - i ∧ i ≤ l.length ∧ u ≤ most ∧ rdr b most 0 l = rdr b most u (l.drop i) ∧ ρ.get 0 = tx l ∧ ρ.get 1 = .fptr [.c (.int .u64 b)] 0 ∧ ρ.get 2 = .fptr [.c (.int .u64 most)] 0 ∧ ρ.get 6 = .c (.int .u64 u) ∧ ρ.get 7 = .c (.int .i64 i) ∧ s' = s) l.length
      ⟨0, 0, rfl, Nat.zero_le _, Nat.zero_le _, by rw [List.drop_zero], by (((try simp -implicitDefEqProofs only [eA_tmp, eA_const, AEnv.get_set, ofA_get, List.getD_cons_zero, List.getD_cons_succ, ↓reduceIte, reduceCtorEq, Nat.reduceEqDiff]); try (first | (with_reducible assumption) | (with_reducible rfl) | (congr 2 <;> omega) | rfl))), by (((try simp -implicitDefEqProofs only [eA_tmp, eA_const, AEnv.get_set, ofA_get, List.getD_cons_zero, List.getD_cons_succ, ↓reduceIte, reduceCtorEq, Nat.reduceEqDiff]); try (first | (with_reducible assumption) | (with_reducible rfl) | (congr 2 <;> omega) | rfl))), by (((try simp -implicitDefEqProofs only [eA_tmp, eA_const, AEnv.get_set, ofA_get, List.getD_cons_zero, List.getD_cons_succ, ↓reduceIte, reduceCtorEq, Nat.reduceEqDiff]); try (first | (with_reducible assumption) | (with_reducible rfl) | (congr 2 <;> omega) | rfl))), by (((try simp -implicitDefEqProofs only [eA_tmp, eA_const, AEnv.get_set, ofA_get, List.getD_cons_zero, List.getD_cons_succ, ↓reduceIte, reduceCtorEq, Nat.reduceEqDiff]); try (first | (with_reducible assumption) | (with_reducible rfl) | (congr 2 <;> omega) | rfl))), by (((try simp -implicitDefEqProofs only [eA_tmp, eA_const, AEnv.get_set, ofA_get, List.getD_cons_zero, List.getD_cons_succ, ↓reduceIte, reduceCtorEq, Nat.reduceEqDiff]); try (first | (with_reducible assumption) | (with_reducible rfl) | (congr 2 <;> omega) | rfl))), rfl⟩ ?_
    rintro m ρ s' ⟨i, u, rfl, hil, hu, hr, g0, g1, g2, g6, g7, rfl⟩
    by_cases hc : i < l.length
    · obtain ⟨x, hx⟩ : ∃ x, l[i]? = some x := ⟨_, List.getElem?_eq_getElem hc⟩
      have hd : l.drop i = x :: l.drop (i + 1) := by rw [List.drop_eq_getElem_cons hc, (List.getElem?_eq_some_iff.1 hx).2]
      have hs16 : List.take 16 sgn = sgn := rfl
      have hq : Lib.indexByte (sgn.take b) x = idxB b x := by rcases hb with rfl | rfl; exact idx10 x; rw [hs16]; exact idx16 x
      have hii := hi (sgn.take b) x
      rw [hq] at hii
      rw [hd, rdr] at hr
      unfold idxB at hii
      cases hdo : dof b x with
      | none =>
        rw [hdo] at hii hr
        simp only at hii hr
        rw [hr]
        rcases hb with rfl | rfl
        all_goals
          simp only [sgn, List.take_succ_cons, List.take_zero] at hii
          repeat' (first | ((first | apply ga_dec | apply ga_ndec | apply cd_dec | apply cd_ndec | apply gd_dec | apply gd_ndec | apply ga_split | apply cd_split | apply gd_split) <;> intro hc <;> (try (simp -implicitDefEqProofs (maxSteps := 2000000) (disch := first | omega | (simp only [vz_push, vz_set, drop_size]; first | done | omega)) only [push_cast, seval, f55N0, f55N1, f55N2, f55N3, hc, g0, g1, g2, g6, g7, hx])) <;> (try (exfalso; omega))) | refine VC_pure (hii) ?_ | (simp -implicitDefEqProofs (maxSteps := 2000000) (disch := first | omega | (simp only [vz_push, vz_set, drop_size]; first | done | omega)) only [push_cast, seval, f55N0, f55N1, f55N2, f55N3, g0, g1, g2, g6, g7, hx]))
          exact out_firm (by (repeat first | assumption | exact KeepA.refl _ | apply KeepA.push | refine KeepA.set ?_ (by first | omega | (simp only [vz_push, vz_set, drop_size]; omega) | (have h9 := KeepA.size_le (by assumption); (try simp only [vz_push, vz_set, drop_size] at *); omega)) _ | refine KeepA.drop ?_ (by first | omega | (simp only [vz_push, vz_set, drop_size]; omega) | (have h9 := KeepA.size_le (by assumption); (try simp only [vz_push, vz_set, drop_size] at *); omega)) | refine KeepA.trans ?_ (by assumption))) rfl (Firm.tup (all_cons (Firm.c _) (all_cons (Firm.c _) all_nil)))
      | some d =>
        have hdl := dof_lt hb hdo
        rw [hdo] at hii hr
        simp only at hii hr
        by_cases hov : (most - d) / b < u
        · rw [if_pos hov] at hr
          rw [hr]
          rcases hb with rfl | rfl
          all_goals
            simp only [sgn, List.take_succ_cons, List.take_zero] at hii
            repeat' (first | ((first | apply ga_dec | apply ga_ndec | apply cd_dec | apply cd_ndec | apply gd_dec | apply gd_ndec | apply ga_split | apply cd_split | apply gd_split) <;> intro hc <;> (try (simp -implicitDefEqProofs (maxSteps := 2000000) (disch := first | omega | (simp only [vz_push, vz_set, drop_size]; first | done | omega)) only [push_cast, seval, f55N0, f55N1, f55N2, f55N3, hc, g0, g1, g2, g6, g7, hx])) <;> (try (exfalso; omega))) | refine VC_pure (hii) ?_ | (simp -implicitDefEqProofs (maxSteps := 2000000) (disch := first | omega | (simp only [vz_push, vz_set, drop_size]; first | done | omega)) only [push_cast, seval, f55N0, f55N1, f55N2, f55N3, g0, g1, g2, g6, g7, hx]))
            exact out_firm (by (repeat first | assumption | exact KeepA.refl _ | apply KeepA.push | refine KeepA.set ?_ (by first | omega | (simp only [vz_push, vz_set, drop_size]; omega) | (have h9 := KeepA.size_le (by assumption); (try simp only [vz_push, vz_set, drop_size] at *); omega)) _ | refine KeepA.drop ?_ (by first | omega | (simp only [vz_push, vz_set, drop_size]; omega) | (have h9 := KeepA.size_le (by assumption); (try simp only [vz_push, vz_set, drop_size] at *); omega)) | refine KeepA.trans ?_ (by assumption))) rfl (Firm.tup (all_cons (Firm.c _) (all_cons (Firm.c _) all_nil)))
        · rw [if_neg hov] at hr
          rcases hb with rfl | rfl
          all_goals
            simp only [sgn, List.take_succ_cons, List.take_zero] at hii
            repeat' (first | ((first | apply ga_dec | apply ga_ndec | apply cd_dec | apply cd_ndec | apply gd_dec | apply gd_ndec | apply ga_split | apply cd_split | apply gd_split) <;> intro hc <;> (try (simp -implicitDefEqProofs (maxSteps := 2000000) (disch := first | omega | (simp only [vz_push, vz_set, drop_size]; first | done | omega)) only [push_cast, seval, f55N0, f55N1, f55N2, f55N3, hc, g0, g1, g2, g6, g7, hx])) <;> (try (exfalso; omega))) | refine VC_pure (hii) ?_ | (simp -implicitDefEqProofs (maxSteps := 2000000) (disch := first | omega | (simp only [vz_push, vz_set, drop_size]; first | done | omega)) only [push_cast, seval, f55N0, f55N1, f55N2, f55N3, g0, g1, g2, g6, g7, hx]))
            refine ⟨_, by omega, i + 1, u * _ + d, rfl, by omega, by omega, hr, ?_⟩
            exact ⟨by congr 2, by congr 2⟩
    · obtain rfl : i = l.length := by omega
      rw [List.drop_eq_nil_of_le (Nat.le_refl _), rdr] at hr
      rw [hr]
      repeat' (first | ((first | apply ga_dec | apply ga_ndec | apply cd_dec | apply cd_ndec | apply gd_dec | apply gd_ndec | apply ga_split | apply cd_split | apply gd_split) <;> intro hc <;> (try (simp -implicitDefEqProofs (maxSteps := 2000000) (disch := first | omega | (simp only [vz_push, vz_set, drop_size]; first | done | omega)) only [push_cast, seval, f55N0, f55N1, f55N2, f55N3, hc, g0, g1, g2, g6, g7])) <;> (try (exfalso; omega))) | (simp -implicitDefEqProofs (maxSteps := 2000000) (disch := first | omega | (simp only [vz_push, vz_set, drop_size]; first | done | omega)) only [push_cast, seval, f55N0, f55N1, f55N2, f55N3, g0, g1, g2, g6, g7]))
      exact out_firm (by (repeat first | assumption | exact KeepA.refl _ | apply KeepA.push | refine KeepA.set ?_ (by first | omega | (simp only [vz_push, vz_set, drop_size]; omega) | (have h9 := KeepA.size_le (by assumption); (try simp only [vz_push, vz_set, drop_size] at *); omega)) _ | refine KeepA.drop ?_ (by first | omega | (simp only [vz_push, vz_set, drop_size]; omega) | (have h9 := KeepA.size_le (by assumption); (try simp only [vz_push, vz_set, drop_size] at *); omega)) | refine KeepA.trans ?_ (by assumption))) rfl (Firm.tup (all_cons (Firm.c _) (all_cons (Firm.c _) all_nil)))
def undecR (s : List UInt8) : Option Int :=
  if s.take 1 = [45] then match rdrR 10 9223372036854775808 (s.drop 1) with
    | some u => if decS (-(u : Int)) = s then some (-(u : Int)) else none
    | none => none
  else match rdrR 10 9223372036854775807 s with
    | some u => if decS u = s then some (u : Int) else none
    | none => none
def undecV (o : Option Int) : AV := match o with
  | some n => .tup [.c (.int .i64 n), .c (.int .i64 0)]
  | none => .tup [.c (.int .i64 0), .c (.int .i64 6)]
omit hk in
theorem rdr_le {b most : Nat} (hb : b = 10 ∨ b = 16) (hm : 16 ≤ most) : ∀ (l : List UInt8) (u v : Nat), u ≤ most → rdr b most u l = some v → v ≤ most
  | [], u, v, hu, h => by rw [rdr] at h; cases h; exact hu
  | c :: l, u, v, hu, h => by
    rw [rdr] at h
    split at h
    · cases h
    · rename_i d hd
      have := dof_lt hb hd
      split at h
      · cases h
      · refine rdr_le hb hm l _ v ?_ h
        rcases hb with rfl | rfl <;> omega
omit hk in
/-- A number's digits say it. -/
theorem undec_dec {n : Int} (h1 : -9223372036854775808 ≤ n) (h2 : n < 9223372036854775808) : undecR (decS n) = some n := by
  unfold undecR
  by_cases h0 : n < 0
  · have e : decS n = 45 :: digs 10 (-n).toNat := by unfold decS; rw [if_pos h0]
    have hne : digs 10 (-n).toNat ≠ [] := fun he => by have := digs_pos 10 (-n).toNat; rw [he] at this; simp at this
    rw [if_pos (by rw [e]; rfl)]
    have hr : rdrR 10 9223372036854775808 ((decS n).drop 1) = some (-n).toNat := by
      rw [e]
      unfold rdrR
      rw [List.drop_succ_cons, List.drop_zero, if_neg hne]
      exact rdr_digs (.inl rfl) _ _ (Nat.le_refl _) (by omega) (by omega)
    rw [hr]
    simp only
    rw [show -(((-n).toNat : Nat) : Int) = n by omega, if_pos rfl]
  · have e : decS n = digs 10 n.toNat := by unfold decS; rw [if_neg h0]
    obtain ⟨c, l, hc, hc2⟩ := digs10_head n.toNat n.toNat (Nat.le_refl _)
    have hne : decS n ≠ [] := by rw [e, hc]; simp
    rw [if_neg (by rw [e, hc]; simp; exact hc2)]
    have hr : rdrR 10 9223372036854775807 (decS n) = some n.toNat := by
      unfold rdrR
      rw [if_neg hne, e]
      exact rdr_digs (.inl rfl) _ _ (Nat.le_refl _) (by omega) (by omega)
    rw [hr]
    simp only
    rw [show ((n.toNat : Nat) : Int) = n by omega, if_pos rfl]
omit hk in
theorem undec_rng {s : List UInt8} {n : Int} (h : undecR s = some n) : -9223372036854775808 ≤ n ∧ n < 9223372036854775808 ∧ decS n = s := by
  have hle : ∀ most, 16 ≤ most → ∀ l u, rdrR 10 most l = some u → u ≤ most := fun most hm l u hr => by
    unfold rdrR at hr
    split at hr
    · cases hr
    · exact rdr_le (.inl rfl) hm _ _ _ (Nat.zero_le _) hr
  unfold undecR at h
  split at h
  · split at h
    · rename_i u hr
      have := hle _ (by omega) _ _ hr
      split at h
      · rename_i hd; cases h; exact ⟨by omega, by omega, hd⟩
      · cases h
    · cases h
  · split at h
    · rename_i u hr
      have := hle _ (by omega) _ _ hr
      split at h
      · rename_i hd; cases h; exact ⟨by omega, by omega, hd⟩
      · cases h
    · cases h
omit hk in
theorem decS_len {n : Int} (h1 : -9223372036854775808 ≤ n) (h2 : n < 9223372036854775808) : (decS n).length ≤ 65 := by
  unfold decS
  split
  · have := digs10_len (n := (-n).toNat) (by omega)
    simp; omega
  · have := digs10_len (n := n.toNat) (by omega)
    omega
omit hk in
/-- What reading hex digits answers, as the document says it. -/
theorem unhex_rdr {l : List UInt8} (hl : l.length ≤ 15) : rdrR 16 1152921504606846975 l = unhex l := by
  unfold rdrR unhex
  by_cases h0 : l = []
  · subst h0; rfl
  · have hp : 0 < l.length := List.length_pos_iff.2 h0
    rw [if_neg h0, rdr_hex 15 l 0 hl (by decide) (Nat.le_refl _)]
    cases hh : l.all hexB with
    | true => rw [if_pos rfl, if_pos ⟨hp, hl, rfl⟩]; rfl
    | false => rw [if_neg (by simp), if_neg (by simp)]
def unhexV (o : Option Nat) : AV := match o with
  | some n => .tup [.c (.int .i64 n), .c (.int .i64 0)]
  | none => .tup [.c (.int .i64 0), .c (.int .i64 6)]
theorem unhex_ok (s : List UInt8) (hl : s.length < 1000000) : PC (XK k) 36 [tx s] (unhexV (unhex s)) := by
  refine PC_of fun st => ?_
  refine f36_in (hk _ (by decide) (by decide)) ?_
  by_cases h15 : s.length ≤ 15
  · have w1 := reader1_ok hk 16 1152921504606846975 (.inr rfl) (by omega) (by omega) s hl
    rw [unhex_rdr h15] at w1
    cases hu : unhex s with
    | none =>
      rw [hu] at w1
      simp only [rdrV] at w1
      repeat' (first | ((first | apply ga_dec | apply ga_ndec | apply cd_dec | apply cd_ndec | apply gd_dec | apply gd_ndec | apply ga_split | apply cd_split | apply gd_split) <;> intro hc <;> (try (simp -implicitDefEqProofs (maxSteps := 2000000) (disch := first | omega | (simp only [vz_push, vz_set, drop_size]; first | done | omega)) only [push_cast, seval, f36N0, f36N1, hc])) <;> (try (exfalso; omega))) | refine VC_pure (reader_ok hk _ _) ?_ | refine VC_pure (w1) ?_ | (simp -implicitDefEqProofs (maxSteps := 2000000) (disch := first | omega | (simp only [vz_push, vz_set, drop_size]; first | done | omega)) only [push_cast, seval, f36N0, f36N1]))
      exact out_firm (KeepA.refl _) rfl (Firm.tup (all_cons (Firm.c _) (all_cons (Firm.c _) all_nil)))
    | some u =>
      have hlt := unhex_lt hu
      rw [hu] at w1
      simp only [rdrV] at w1
      repeat' (first | ((first | apply ga_dec | apply ga_ndec | apply cd_dec | apply cd_ndec | apply gd_dec | apply gd_ndec | apply ga_split | apply cd_split | apply gd_split) <;> intro hc <;> (try (simp -implicitDefEqProofs (maxSteps := 2000000) (disch := first | omega | (simp only [vz_push, vz_set, drop_size]; first | done | omega)) only [push_cast, seval, f36N0, f36N1, hc])) <;> (try (exfalso; omega))) | refine VC_pure (reader_ok hk _ _) ?_ | refine VC_pure (w1) ?_ | (simp -implicitDefEqProofs (maxSteps := 2000000) (disch := first | omega | (simp only [vz_push, vz_set, drop_size]; first | done | omega)) only [push_cast, seval, f36N0, f36N1]))
      exact out_firm (KeepA.refl _) rfl (Firm.tup (all_cons (Firm.c _) (all_cons (Firm.c _) all_nil)))
  · have hu : unhex s = none := by unfold unhex; rw [if_neg (by omega)]
    rw [hu]
    (try (simp -implicitDefEqProofs (maxSteps := 2000000) (disch := first | omega | (simp only [vz_push, vz_set, drop_size]; first | done | omega)) only [push_cast, seval, f36N0, f36N1])) <;> (repeat' ((first | apply ga_dec | apply ga_ndec | apply cd_dec | apply cd_ndec | apply gd_dec | apply gd_ndec | apply ga_split | apply cd_split | apply gd_split) <;> intro hc <;> try (simp -implicitDefEqProofs (maxSteps := 2000000) (disch := first | omega | (simp only [vz_push, vz_set, drop_size]; first | done | omega)) only [push_cast, seval, f36N0, f36N1, hc])))
    all_goals first | (exfalso; omega) | skip
    exact out_firm (KeepA.refl _) rfl (Firm.tup (all_cons (Firm.c _) (all_cons (Firm.c _) all_nil)))
def runhexI (o : Option Nat) : Int := match o with
  | some n => n
  | none => -1
omit hk in
theorem unhex_none {s : List UInt8} {c : UInt8} (hc : c ∈ s) (h : hexB c = false) : unhex s = none := by
  unfold unhex
  rw [if_neg]
  rintro ⟨_, _, h3⟩
  rw [List.all_eq_true.1 h3 c hc] at h
  cases h
end
end Go.Proofs.Yticllcglldbffaa.Ab
