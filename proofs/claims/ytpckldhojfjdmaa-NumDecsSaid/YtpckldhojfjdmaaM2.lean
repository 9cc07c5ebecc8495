/- Numbers as texts, and read: the walks; the laws NumDecs, NumHexes. -/
import Derived.Test.YtpckldhojfjdmaaN2
import Derived.Test.YtpckldhojfjdmaaM1
import Derived.Test.YtpckldhojfjdmaaG6
namespace Go.Proofs.Ytpckldhojfjdmaa.Ab
open Go.Proofs
set_option maxRecDepth 100000
set_option maxHeartbeats 4000000
set_option linter.unusedSimpArgs false
set_option linter.unusedVariables false
set_option linter.unnecessarySimpa false
set_option linter.unusedSectionVars false
def sgn : List UInt8 := [48, 49, 50, 51, 52, 53, 54, 55, 56, 57, 65, 66, 67, 68, 69, 70]
def idxB (b : Nat) (c : UInt8) : Int := match dof b c with
  | some d => (d : Int)
  | none => -1
theorem idx10_all : ((List.range 256).all fun n => Lib.indexByte (sgn.take 10) (UInt8.ofNat n) == idxB 10 (UInt8.ofNat n)) = true := by kernel_rfl
theorem idx16_all : ((List.range 256).all fun n => Lib.indexByte sgn (UInt8.ofNat n) == idxB 16 (UInt8.ofNat n)) = true := by kernel_rfl
theorem idx10 (c : UInt8) : Lib.indexByte (sgn.take 10) c = idxB 10 c := by
  have := List.all_eq_true.1 idx10_all c.toNat (List.mem_range.2 c.toNat_lt)
  rw [UInt8.ofNat_toNat] at this
  simpa using this
theorem idx16 (c : UInt8) : Lib.indexByte sgn c = idxB 16 c := by
  have := List.all_eq_true.1 idx16_all c.toNat (List.mem_range.2 c.toNat_lt)
  rw [UInt8.ofNat_toNat] at this
  simpa using this
/-- What reading digits answers. -/
def rdrR (b most : Nat) (l : List UInt8) : Option Nat := if l = [] then none else rdr b most 0 l
def rdrV (o : Option Nat) : AV := match o with
  | some v => .tup [.c (.int .u64 v), .c (.bool true)]
  | none => .tup [.c (.int .u64 0), .c (.bool false)]
section
variable {k : Nat → List Value → Option Value} (hk : ∀ f, f ≠ 19 → Open k f)
include hk
theorem reader_ok (b m : Int) : PC (XK k) 17 [.c (.int .u64 b), .c (.int .u64 m)] (.fn 23 [] [.fptr [.c (.int .u64 b)] 0, .fptr [.c (.int .u64 m)] 0]) := by
  refine PC_of fun s => ?_
  refine f17_in (hk _ (by decide)) ?_
  (try (simp -implicitDefEqProofs (maxSteps := 2000000) (disch := first | omega | (simp only [vz_push, vz_set, drop_size]; first | done | omega)) only [push_cast, seval, f17N0])) <;> (repeat' ((first | apply ga_dec | apply ga_ndec | apply cd_dec | apply cd_ndec | apply gd_dec | apply gd_ndec | apply ga_split | apply cd_split | apply gd_split) <;> intro hc <;> try (simp -implicitDefEqProofs (maxSteps := 2000000) (disch := first | omega | (simp only [vz_push, vz_set, drop_size]; first | done | omega)) only [push_cast, seval, f17N0, hc])))
  refine ⟨by (repeat first | assumption | exact KeepA.refl _ | apply KeepA.push | refine KeepA.set ?_ (by first | omega | (simp only [vz_push, vz_set, drop_size]; omega) | (have h9 := KeepA.size_le (by assumption); (try simp only [vz_push, vz_set, drop_size] at *); omega)) _ | refine KeepA.drop ?_ (by first | omega | (simp only [vz_push, vz_set, drop_size]; omega) | (have h9 := KeepA.size_le (by assumption); (try simp only [vz_push, vz_set, drop_size] at *); omega)) | refine KeepA.trans ?_ (by assumption)), Se.fn Ses.nil (Ses.cons (Se.box (b := s.size) (e := 34) (by (simp -implicitDefEqProofs (disch := first | omega | (simp only [vz_push, vz_set, drop_size]; first | done | omega)) only [drop_ne, gp_ne, gp_eq, gs_ne, gs_eq])) (by omega) (Se.c _)) (Ses.cons (Se.box (b := s.size + 1) (e := 34) (by (simp -implicitDefEqProofs (disch := first | omega | (simp only [vz_push, vz_set, drop_size]; first | done | omega)) only [drop_ne, gp_ne, gp_eq, gs_ne, gs_eq])) (by omega) (Se.c _)) Ses.nil))⟩
theorem reader1_ok (b most : Nat) (hb : b = 10 ∨ b = 16) (hm : most < 18446744073709551616) (hm1 : 16 ≤ most) (l : List UInt8) (hl : l.length < 1000000) : PC (XK k) 23 [tx l, .fptr [.c (.int .u64 b)] 0, .fptr [.c (.int .u64 most)] 0] (rdrV (rdrR b most l)) := by
  refine PC_of fun s => ?_
  refine f23_in (hk _ (by decide)) ?_
  have hi := indexByte_ok hk
  by_cases he : l = []
  · subst he
    (try (simp -implicitDefEqProofs (maxSteps := 2000000) (disch := first | omega | (simp only [vz_push, vz_set, drop_size]; first | done | omega)) only [push_cast, seval, f23N0, f23N1, f23N2, f23N3])) <;> (repeat' ((first | apply ga_dec | apply ga_ndec | apply cd_dec | apply cd_ndec | apply gd_dec | apply gd_ndec | apply ga_split | apply cd_split | apply gd_split) <;> intro hc <;> try (simp -implicitDefEqProofs (maxSteps := 2000000) (disch := first | omega | (simp only [vz_push, vz_set, drop_size]; first | done | omega)) only [push_cast, seval, f23N0, f23N1, f23N2, f23N3, hc])))
    exact out_firm (by (repeat first | assumption | exact KeepA.refl _ | apply KeepA.push | refine KeepA.set ?_ (by first | omega | (simp only [vz_push, vz_set, drop_size]; omega) | (have h9 := KeepA.size_le (by assumption); (try simp only [vz_push, vz_set, drop_size] at *); omega)) _ | refine KeepA.drop ?_ (by first | omega | (simp only [vz_push, vz_set, drop_size]; omega) | (have h9 := KeepA.size_le (by assumption); (try simp only [vz_push, vz_set, drop_size] at *); omega)) | refine KeepA.trans ?_ (by assumption))) rfl (Firm.tup (all_cons (Firm.c _) (all_cons (Firm.c _) all_nil)))
  · have hbe : (l == []) = false := by simpa using he
    have hR : rdrR b most l = rdr b most 0 l := by unfold rdrR; rw [if_neg he]
    rw [hR]
    repeat' (first | ((first | apply ga_dec | apply ga_ndec | apply cd_dec | apply cd_ndec | apply gd_dec | apply gd_ndec | apply ga_split | apply cd_split | apply gd_split) <;> intro hc <;> (try (simp -implicitDefEqProofs (maxSteps := 2000000) (disch := first | omega | (simp only [vz_push, vz_set, drop_size]; first | done | omega)) only [push_cast, seval, f23N0, f23N1, f23N2, f23N3, hc, hbe])) <;> (try (exfalso; omega))) | (simp -implicitDefEqProofs (maxSteps := 2000000) (disch := first | omega | (simp only [vz_push, vz_set, drop_size]; first | done | omega)) only [push_cast, seval, f23N0, f23N1, f23N2, f23N3, hbe]))
    refine VW_iter (fun m ρ s' => ∃ (i u : Nat), m = l.length - i ∧ i ≤ l.length ∧ u ≤ most ∧ rdr b most 0 l = rdr b most u (l.drop i) ∧ ρ.get 0 = tx l ∧ ρ.get 1 = .fptr [.c (.int .u64 b)] 0 ∧ ρ.get 2 = .fptr [.c (.int .u64 most)] 0 ∧ ρ.get 6 = .c (.int .u64 u) ∧ ρ.get 7 = .c (.int .i64 i) ∧ s' = s) l.length
      ⟨0, 0, rfl, Nat.zero_le _, Nat.zero_le _, by rw [List.drop_zero], by (((try simp -implicitDefEqProofs only [eA_tmp, eA_const, AEnv.get_set, ofA_get, List.getD_cons_zero, List.getD_cons_succ, ↓reduceIte, reduceCtorEq, Nat.reduceEqDiff]); try (first | (with_reducible assumption) | (with_reducible rfl) | (congr 2 <;> omega) | rfl))), by (((try simp -implicitDefEqProofs only [eA_tmp, eA_const, AEnv.get_set, ofA_get, List.getD_cons_zero, List.getD_cons_succ, ↓reduceIte, reduceCtorEq, Nat.reduceEqDiff]); try (first | (with_reducible assumption) | (with_reducible rfl) | (congr 2 <;> omega) | rfl))), by (((try simp -implicitDefEqProofs only [eA_tmp, eA_const, AEnv.get_set, ofA_get, List.getD_cons_zero, List.getD_cons_succ, ↓reduceIte, reduceCtorEq, Nat.reduceEqDiff]); try (first | (with_reducible assumption) | (with_reducible rfl) | (congr 2 <;> omega) | rfl))), by (((try simp -implicitDefEqProofs only [eA_tmp, eA_const, AEnv.get_set, ofA_get, List.getD_cons_zero, List.getD_cons_succ, ↓reduceIte, reduceCtorEq, Nat.reduceEqDiff]); try (first | (with_reducible assumption) | (with_reducible rfl) | (congr 2 <;> omega) | rfl))), by (((try simp -implicitDefEqProofs only [eA_tmp, eA_const, AEnv.get_set, ofA_get, List.getD_cons_zero, List.getD_cons_succ, ↓reduceIte, reduceCtorEq, Nat.reduceEqDiff]); try (first | (with_reducible assumption) | (with_reducible rfl) | (congr 2 <;> omega) | rfl))), rfl⟩ ?_
    rintro m ρ s' ⟨i, u, rfl, hil, hu, hr, g0, g1, g2, g6, g7, rfl⟩
    by_cases hc : i < l.length
    · obtain ⟨x, hx⟩ : ∃ x, l[i]? = some x := ⟨_, List.getElem?_eq_getElem hc⟩
      have hd : l.drop i = x :: l.drop (i + 1) := by rw [List.drop_eq_getElem_cons hc, (List.getElem?_eq_some_iff.1 hx).2]
      have hs16 : List.take 16 sgn = sgn := rfl
      have hq : Lib.indexByte (sgn.take b) x = idxB b x := by rcases hb with rfl | rfl; exact idx10 x; rw [hs16]; exact idx16 x
      have hii := hi (sgn.take b) x
      rw [hq] at hii
      rw [hd, rdr] at hr
      unfold idxB at hii
      cases hdo : dof b x with
      | none =>
        rw [hdo] at hii hr
        simp only at hii hr
        rw [hr]
        rcases hb with rfl | rfl
        all_goals
          simp only [sgn, List.take_succ_cons, List.take_zero] at hii
          repeat' (first | ((first | apply ga_dec | apply ga_ndec | apply cd_dec | apply cd_ndec | apply gd_dec | apply gd_ndec | apply ga_split | apply cd_split | apply gd_split) <;> intro hc <;> (try (simp -implicitDefEqProofs (maxSteps := 2000000) (disch := first | omega | (simp only [vz_push, vz_set, drop_size]; first | done | omega)) only [push_cast, seval, f23N0, f23N1, f23N2, f23N3, hc, g0, g1, g2, g6, g7, hx])) <;> (try (exfalso; omega))) | refine VC_pure (hii) ?_ | (simp -implicitDefEqProofs (maxSteps := 2000000) (disch := first | omega | (simp only [vz_push, vz_set, drop_size]; first | done | omega)) only [push_cast, seval, f23N0, f23N1, f23N2, f23N3, g0, g1, g2, g6, g7, hx]))
          exact out_firm (by (repeat first | assumption | exact KeepA.refl _ | apply KeepA.push | refine KeepA.set ?_ (by first | omega | (simp only [vz_push, vz_set, drop_size]; omega) | (have h9 := KeepA.size_le (by assumption); (try simp only [vz_push, vz_set, drop_size] at *); omega)) _ | refine KeepA.drop ?_ (by first | omega | (simp only [vz_push, vz_set, drop_size]; omega) | (have h9 := KeepA.size_le (by assumption); (try simp only [vz_push, vz_set, drop_size] at *); omega)) | refine KeepA.trans ?_ (by assumption))) rfl (Firm.tup (all_cons (Firm.c _) (all_cons (Firm.c _) all_nil)))
      | some d =>
        have hdl := dof_lt hb hdo
        rw [hdo] at hii hr
        simp only at hii hr
        by_cases hov : (most - d) / b < u
        · rw [if_pos hov] at hr
          rw [hr]
          rcases hb with rfl | rfl
          all_goals
            simp only [sgn, List.take_succ_cons, List.take_zero] at hii
            repeat' (first | ((first | apply ga_dec | apply ga_ndec | apply cd_dec | apply cd_ndec | apply gd_dec | apply gd_ndec | apply ga_split | apply cd_split | apply gd_split) <;> intro hc <;> (try (simp -implicitDefEqProofs (maxSteps := 2000000) (disch := first | omega | (simp only [vz_push, vz_set, drop_size]; first | done | omega)) only [push_cast, seval, f23N0, f23N1, f23N2, f23N3, hc, g0, g1, g2, g6, g7, hx])) <;> (try (exfalso; omega))) | refine VC_pure (hii) ?_ | (simp -implicitDefEqProofs (maxSteps := 2000000) (disch := first | omega | (simp only [vz_push, vz_set, drop_size]; first | done | omega)) only [push_cast, seval, f23N0, f23N1, f23N2, f23N3, g0, g1, g2, g6, g7, hx]))
            exact out_firm (by (repeat first | assumption | exact KeepA.refl _ | apply KeepA.push | refine KeepA.set ?_ (by first | omega | (simp only [vz_push, vz_set, drop_size]; omega) | (have h9 := KeepA.size_le (by assumption); (try simp only [vz_push, vz_set, drop_size] at *); omega)) _ | refine KeepA.drop ?_ (by first | omega | (simp only [vz_push, vz_set, drop_size]; omega) | (have h9 := KeepA.size_le (by assumption); (try simp only [vz_push, vz_set, drop_size] at *); omega)) | refine KeepA.trans ?_ (by assumption))) rfl (Firm.tup (all_cons (Firm.c _) (all_cons (Firm.c _) all_nil)))
        · rw [if_neg hov] at hr
          rcases hb with rfl | rfl
          all_goals
            simp only [sgn, List.take_succ_cons, List.take_zero] at hii
            repeat' (first | ((first | apply ga_dec | apply ga_ndec | apply cd_dec | apply cd_ndec | apply gd_dec | apply gd_ndec | apply ga_split | apply cd_split | apply gd_split) <;> intro hc <;> (try (simp -implicitDefEqProofs (maxSteps := 2000000) (disch := first | omega | (simp only [vz_push, vz_set, drop_size]; first | done | omega)) only [push_cast, seval, f23N0, f23N1, f23N2, f23N3, hc, g0, g1, g2, g6, g7, hx])) <;> (try (exfalso; omega))) | refine VC_pure (hii) ?_ | (simp -implicitDefEqProofs (maxSteps := 2000000) (disch := first | omega | (simp only [vz_push, vz_set, drop_size]; first | done | omega)) only [push_cast, seval, f23N0, f23N1, f23N2, f23N3, g0, g1, g2, g6, g7, hx]))
            refine ⟨_, by omega, i + 1, u * _ + d, rfl, by omega, by omega, hr, ?_⟩
            exact ⟨by congr 2, by congr 2⟩
    · obtain rfl : i = l.length := by omega
      rw [List.drop_eq_nil_of_le (Nat.le_refl _), rdr] at hr
      rw [hr]
      repeat' (first | ((first | apply ga_dec | apply ga_ndec | apply cd_dec | apply cd_ndec | apply gd_dec | apply gd_ndec | apply ga_split | apply cd_split | apply gd_split) <;> intro hc <;> (try (simp -implicitDefEqProofs (maxSteps := 2000000) (disch := first | omega | (simp only [vz_push, vz_set, drop_size]; first | done | omega)) only [push_cast, seval, f23N0, f23N1, f23N2, f23N3, hc, g0, g1, g2, g6, g7])) <;> (try (exfalso; omega))) | (simp -implicitDefEqProofs (maxSteps := 2000000) (disch := first | omega | (simp only [vz_push, vz_set, drop_size]; first | done | omega)) only [push_cast, seval, f23N0, f23N1, f23N2, f23N3, g0, g1, g2, g6, g7]))
      exact out_firm (by (repeat first | assumption | exact KeepA.refl _ | apply KeepA.push | refine KeepA.set ?_ (by first | omega | (simp only [vz_push, vz_set, drop_size]; omega) | (have h9 := KeepA.size_le (by assumption); (try simp only [vz_push, vz_set, drop_size] at *); omega)) _ | refine KeepA.drop ?_ (by first | omega | (simp only [vz_push, vz_set, drop_size]; omega) | (have h9 := KeepA.size_le (by assumption); (try simp only [vz_push, vz_set, drop_size] at *); omega)) | refine KeepA.trans ?_ (by assumption))) rfl (Firm.tup (all_cons (Firm.c _) (all_cons (Firm.c _) all_nil)))
theorem dec_ok (n : Int) (h1 : -9223372036854775808 ≤ n) (h2 : n < 9223372036854775808) : PC (XK k) 6 [.c (.int .i64 n)] (tx (decS n)) := by
  refine PC_of fun s => ?_
  refine f6_in (hk _ (by decide)) ?_
  unfold decS
  by_cases h0 : n < 0
  · have e1 : IntKind.u64.wrap n = n + 18446744073709551616 := by unfold IntKind.wrap; simp [IntKind.signed, IntKind.bits]; omega
    have e2 : IntKind.u64.wrap (0 - (n + 18446744073709551616)) = ((-n).toNat : Int) := by unfold IntKind.wrap; simp [IntKind.signed, IntKind.bits]; omega
    have hl := digs10_len (n := (-n).toNat) (by omega)
    rw [if_pos h0]
    repeat' (first | ((first | apply ga_dec | apply ga_ndec | apply cd_dec | apply cd_ndec | apply gd_dec | apply gd_ndec | apply ga_split | apply cd_split | apply gd_split) <;> intro hc <;> (try (simp -implicitDefEqProofs (maxSteps := 2000000) (disch := first | omega | (simp only [vz_push, vz_set, drop_size]; first | done | omega)) only [push_cast, seval, f6N0, f6N1, hc, e1, e2])) <;> (try (exfalso; omega))) | refine VC_pure (teller_ok hk _) ?_ | refine VC_pure (teller1_ok hk 10 (-n).toNat (.inl rfl) (by omega)) ?_ | (simp -implicitDefEqProofs (maxSteps := 2000000) (disch := first | omega | (simp only [vz_push, vz_set, drop_size]; first | done | omega)) only [push_cast, seval, f6N0, f6N1, e1, e2]))
    exact out_tx (by (repeat first | assumption | exact KeepA.refl _ | apply KeepA.push | refine KeepA.set ?_ (by first | omega | (simp only [vz_push, vz_set, drop_size]; omega) | (have h9 := KeepA.size_le (by assumption); (try simp only [vz_push, vz_set, drop_size] at *); omega)) _ | refine KeepA.drop ?_ (by first | omega | (simp only [vz_push, vz_set, drop_size]; omega) | (have h9 := KeepA.size_le (by assumption); (try simp only [vz_push, vz_set, drop_size] at *); omega)) | refine KeepA.trans ?_ (by assumption))) rfl
  · rw [if_neg h0]
    obtain ⟨m, rfl⟩ := Int.eq_ofNat_of_zero_le (by omega : 0 ≤ n)
    repeat' (first | ((first | apply ga_dec | apply ga_ndec | apply cd_dec | apply cd_ndec | apply gd_dec | apply gd_ndec | apply ga_split | apply cd_split | apply gd_split) <;> intro hc <;> (try (simp -implicitDefEqProofs (maxSteps := 2000000) (disch := first | omega | (simp only [vz_push, vz_set, drop_size]; first | done | omega)) only [push_cast, seval, f6N0, f6N1, hc])) <;> (try (exfalso; omega))) | refine VC_pure (teller_ok hk _) ?_ | refine VC_pure (teller1_ok hk 10 m (.inl rfl) (by omega)) ?_ | (simp -implicitDefEqProofs (maxSteps := 2000000) (disch := first | omega | (simp only [vz_push, vz_set, drop_size]; first | done | omega)) only [push_cast, seval, f6N0, f6N1]))
    exact out_tx (by (repeat first | assumption | exact KeepA.refl _ | apply KeepA.push | refine KeepA.set ?_ (by first | omega | (simp only [vz_push, vz_set, drop_size]; omega) | (have h9 := KeepA.size_le (by assumption); (try simp only [vz_push, vz_set, drop_size] at *); omega)) _ | refine KeepA.drop ?_ (by first | omega | (simp only [vz_push, vz_set, drop_size]; omega) | (have h9 := KeepA.size_le (by assumption); (try simp only [vz_push, vz_set, drop_size] at *); omega)) | refine KeepA.trans ?_ (by assumption))) rfl
theorem rdec_ok : ∀ (m : Nat) (n : Int), n.natAbs ≤ m → -9223372036854775808 ≤ n → n < 9223372036854775808 → PC (XK k) 8 [.c (.int .i64 n)] (tx (decS n)) := by
  intro m
  induction m with
  | zero =>
    intro n hm _ _
    obtain rfl : n = 0 := by omega
    have hd : [dig 0] = decS 0 := by unfold decS; rw [if_neg (by omega)]; exact (digs_lt (by decide)).symm
    refine PC_of fun s => ?_
    refine f8_in (hk _ (by decide)) ?_
    repeat' (first | ((first | apply ga_dec | apply ga_ndec | apply cd_dec | apply cd_ndec | apply gd_dec | apply gd_ndec | apply ga_split | apply cd_split | apply gd_split) <;> intro hc <;> (try (simp -implicitDefEqProofs (maxSteps := 2000000) (disch := first | omega | (simp only [vz_push, vz_set, drop_size]; first | done | omega)) only [push_cast, seval, f8N0, f8N1, f8N2, hc])) <;> (try (exfalso; omega))) | refine VC_pure (digit_ok hk 0 (by omega)) ?_ | (simp -implicitDefEqProofs (maxSteps := 2000000) (disch := first | omega | (simp only [vz_push, vz_set, drop_size]; first | done | omega)) only [push_cast, seval, f8N0, f8N1, f8N2]))
    exact out_tx (KeepA.refl _) hd
  | succ m ih =>
    intro n hm h1 h2
    refine PC_of fun s => ?_
    refine f8_in (hk _ (by decide)) ?_
    by_cases h0 : n < 0
    · obtain ⟨a, rfl⟩ : ∃ a : Nat, n = -(a : Int) := ⟨n.natAbs, by omega⟩
      have hd : decS (-(a : Int)) = 45 :: digs 10 a := by unfold decS; rw [if_pos h0]; congr 2; omega
      have e1 : Int.tdiv (-(a : Int)) 10 = -((a / 10 : Nat) : Int) := by rw [Int.neg_tdiv, Int.tdiv_eq_ediv_of_nonneg (by omega)]; rfl
      have e2 : Int.tmod (-(a : Int)) 10 = -((a % 10 : Nat) : Int) := by rw [Int.neg_tmod, Int.tmod_eq_emod_of_nonneg (by omega)]; rfl
      have hdl := digs10_len (n := a / 10) (by omega)
      by_cases h10 : a < 10
      · have hq : 45 :: [dig a] = decS (-(a : Int)) := by rw [hd, digs_lt h10]
        repeat' (first | ((first | apply ga_dec | apply ga_ndec | apply cd_dec | apply cd_ndec | apply gd_dec | apply gd_ndec | apply ga_split | apply cd_split | apply gd_split) <;> intro hc <;> (try (simp -implicitDefEqProofs (maxSteps := 2000000) (disch := first | omega | (simp only [vz_push, vz_set, drop_size]; first | done | omega)) only [push_cast, seval, f8N0, f8N1, f8N2, hc, e1, e2, Int.sub_neg])) <;> (try (exfalso; omega))) | refine VC_pure (digit_ok hk a (by omega)) ?_ | (simp -implicitDefEqProofs (maxSteps := 2000000) (disch := first | omega | (simp only [vz_push, vz_set, drop_size]; first | done | omega)) only [push_cast, seval, f8N0, f8N1, f8N2, e1, e2, Int.sub_neg]))
        exact out_tx (KeepA.refl _) hq
      · have hd2 : decS (-((a / 10 : Nat) : Int)) = 45 :: digs 10 (a / 10) := by unfold decS; rw [if_pos (by omega)]; congr 2; omega
        have w := ih (-((a / 10 : Nat) : Int)) (by omega) (by omega) (by omega)
        rw [hd2, show ((a / 10 : Nat) : Int) = (a : Int) / 10 by omega] at w
        have w2 := digit_ok hk (a % 10) (by omega)
        rw [show ((a % 10 : Nat) : Int) = (a : Int) % 10 by omega] at w2
        have hq : 45 :: (digs 10 (a / 10) ++ [dig (a % 10)]) = decS (-(a : Int)) := by rw [hd, digs_ge (by omega) (by omega : 10 ≤ a)]
        repeat' (first | ((first | apply ga_dec | apply ga_ndec | apply cd_dec | apply cd_ndec | apply gd_dec | apply gd_ndec | apply ga_split | apply cd_split | apply gd_split) <;> intro hc <;> (try (simp -implicitDefEqProofs (maxSteps := 2000000) (disch := first | omega | (simp only [vz_push, vz_set, drop_size]; first | done | omega)) only [push_cast, seval, f8N0, f8N1, f8N2, hc, e1, e2, Int.sub_neg, hdl])) <;> (try (exfalso; omega))) | refine VC_pure (w) ?_ | refine VC_pure (w2) ?_ | (simp -implicitDefEqProofs (maxSteps := 2000000) (disch := first | omega | (simp only [vz_push, vz_set, drop_size]; first | done | omega)) only [push_cast, seval, f8N0, f8N1, f8N2, e1, e2, Int.sub_neg, hdl]))
        exact out_tx (KeepA.refl _) hq
    · obtain ⟨a, rfl⟩ := Int.eq_ofNat_of_zero_le (by omega : 0 ≤ n)
      have hd : decS (a : Int) = digs 10 a := by unfold decS; rw [if_neg h0]; rfl
      have e1 : (a : Int) / 10 = ((a / 10 : Nat) : Int) := by omega
      have e2 : (a : Int) % 10 = ((a % 10 : Nat) : Int) := by omega
      have hdl := digs10_len (n := a / 10) (by omega)
      by_cases h10 : a < 10
      · have hq : [dig a] = decS (a : Int) := by rw [hd, digs_lt h10]
        repeat' (first | ((first | apply ga_dec | apply ga_ndec | apply cd_dec | apply cd_ndec | apply gd_dec | apply gd_ndec | apply ga_split | apply cd_split | apply gd_split) <;> intro hc <;> (try (simp -implicitDefEqProofs (maxSteps := 2000000) (disch := first | omega | (simp only [vz_push, vz_set, drop_size]; first | done | omega)) only [push_cast, seval, f8N0, f8N1, f8N2, hc])) <;> (try (exfalso; omega))) | refine VC_pure (digit_ok hk a (by omega)) ?_ | (simp -implicitDefEqProofs (maxSteps := 2000000) (disch := first | omega | (simp only [vz_push, vz_set, drop_size]; first | done | omega)) only [push_cast, seval, f8N0, f8N1, f8N2]))
        exact out_tx (KeepA.refl _) hq
      · have hd2 : decS ((a / 10 : Nat) : Int) = digs 10 (a / 10) := by unfold decS; rw [if_neg (by omega)]; rfl
        have w := ih ((a / 10 : Nat) : Int) (by omega) (by omega) (by omega)
        rw [hd2, ← e1] at w
        have w2 := digit_ok hk (a % 10) (by omega)
        rw [← e2] at w2
        have hq : digs 10 (a / 10) ++ [dig (a % 10)] = decS (a : Int) := by rw [hd, digs_ge (by omega) (by omega : 10 ≤ a)]
        repeat' (first | ((first | apply ga_dec | apply ga_ndec | apply cd_dec | apply cd_ndec | apply gd_dec | apply gd_ndec | apply ga_split | apply cd_split | apply gd_split) <;> intro hc <;> (try (simp -implicitDefEqProofs (maxSteps := 2000000) (disch := first | omega | (simp only [vz_push, vz_set, drop_size]; first | done | omega)) only [push_cast, seval, f8N0, f8N1, f8N2, hc, hdl])) <;> (try (exfalso; omega))) | refine VC_pure (w) ?_ | refine VC_pure (w2) ?_ | (simp -implicitDefEqProofs (maxSteps := 2000000) (disch := first | omega | (simp only [vz_push, vz_set, drop_size]; first | done | omega)) only [push_cast, seval, f8N0, f8N1, f8N2, hdl]))
        exact out_tx (KeepA.refl _) hq
/-- What a text's digits say; none: it is no number's. -/
def undecR (s : List UInt8) : Option Int :=
  if s.take 1 = [45] then match rdrR 10 9223372036854775808 (s.drop 1) with
    | some u => if decS (-(u : Int)) = s then some (-(u : Int)) else none
    | none => none
  else match rdrR 10 9223372036854775807 s with
    | some u => if decS u = s then some (u : Int) else none
    | none => none
def undecV (o : Option Int) : AV := match o with
  | some n => .tup [.c (.int .i64 n), .c (.int .i64 0)]
  | none => .tup [.c (.int .i64 0), .c (.int .i64 6)]
omit hk in
theorem rdr_le {b most : Nat} (hb : b = 10 ∨ b = 16) (hm : 16 ≤ most) : ∀ (l : List UInt8) (u v : Nat), u ≤ most → rdr b most u l = some v → v ≤ most
  | [], u, v, hu, h => by rw [rdr] at h; cases h; exact hu
  | c :: l, u, v, hu, h => by
    rw [rdr] at h
    split at h
    · cases h
    · rename_i d hd
      have := dof_lt hb hd
      split at h
      · cases h
      · refine rdr_le hb hm l _ v ?_ h
        rcases hb with rfl | rfl <;> omega
theorem undec_ok (s : List UInt8) (hl : s.length < 1000000) : PC (XK k) 7 [tx s] (undecV (undecR s)) := by
  refine PC_of fun st => ?_
  refine f7_in (hk _ (by decide)) ?_
  have hcp := cutPrefix_ok hk s [45] (by omega) (by simp)
  simp only [List.length_cons, List.length_nil, Nat.zero_add] at hcp
  unfold undecR
  by_cases hs : s.take 1 = [45]
  · rw [if_pos hs] at hcp ⊢
    rw [decide_eq_true hs] at hcp
    have w1 := reader1_ok hk 10 9223372036854775808 (.inl rfl) (by omega) (by omega) (s.drop 1) (by rw [List.length_drop]; omega)
    cases hr : rdrR 10 9223372036854775808 (s.drop 1) with
    | none =>
      rw [hr] at w1
      simp only [rdrV] at w1
      repeat' (first | ((first | apply ga_dec | apply ga_ndec | apply cd_dec | apply cd_ndec | apply gd_dec | apply gd_ndec | apply ga_split | apply cd_split | apply gd_split) <;> intro hc <;> (try (simp -implicitDefEqProofs (maxSteps := 2000000) (disch := first | omega | (simp only [vz_push, vz_set, drop_size]; first | done | omega)) only [push_cast, seval, f7N0, f7N1, f7N2, f7N3, hc])) <;> (try (exfalso; omega))) | refine VC_pure (hcp) ?_ | refine VC_pure (reader_ok hk _ _) ?_ | refine VC_pure (w1) ?_ | (simp -implicitDefEqProofs (maxSteps := 2000000) (disch := first | omega | (simp only [vz_push, vz_set, drop_size]; first | done | omega)) only [push_cast, seval, f7N0, f7N1, f7N2, f7N3]))
      exact out_firm (KeepA.refl _) rfl (Firm.tup (all_cons (Firm.c _) (all_cons (Firm.c _) all_nil)))
    | some u =>
      have hu : u ≤ 9223372036854775808 := by
        unfold rdrR at hr
        split at hr
        · cases hr
        · exact rdr_le (.inl rfl) (by omega) _ _ _ (Nat.zero_le _) hr
      rw [hr] at w1
      simp only [rdrV] at w1
      obtain ⟨y, hy⟩ : ∃ y, IntKind.i64.wrap (u : Int) = y := ⟨_, rfl⟩
      obtain ⟨x, hx⟩ : ∃ x, IntKind.u64.wrap (0 - (u : Int)) = x := ⟨_, rfl⟩
      have hxx : IntKind.i64.wrap x = -(u : Int) := by
        rw [← hx]
        unfold IntKind.wrap
        simp [IntKind.signed, IntKind.bits]
        omega
      have wd := dec_ok hk (-(u : Int)) (by omega) (by omega)
      simp only
      by_cases hd : decS (-(u : Int)) = s
      · rw [if_pos hd]
        have hb : (decS (-(u : Int)) == s) = true := by simpa using hd
        repeat' (first | ((first | apply ga_dec | apply ga_ndec | apply cd_dec | apply cd_ndec | apply gd_dec | apply gd_ndec | apply ga_split | apply cd_split | apply gd_split) <;> intro hc <;> (try (simp -implicitDefEqProofs (maxSteps := 2000000) (disch := first | omega | (simp only [vz_push, vz_set, drop_size]; first | done | omega)) only [push_cast, seval, f7N0, f7N1, f7N2, f7N3, hc, hy, hx, hxx, hb])) <;> (try (exfalso; omega))) | refine VC_pure (hcp) ?_ | refine VC_pure (reader_ok hk _ _) ?_ | refine VC_pure (w1) ?_ | refine VC_pure (wd) ?_ | (simp -implicitDefEqProofs (maxSteps := 2000000) (disch := first | omega | (simp only [vz_push, vz_set, drop_size]; first | done | omega)) only [push_cast, seval, f7N0, f7N1, f7N2, f7N3, hy, hx, hxx, hb]))
        exact out_firm (KeepA.refl _) rfl (Firm.tup (all_cons (Firm.c _) (all_cons (Firm.c _) all_nil)))
      · rw [if_neg hd]
        have hb : (decS (-(u : Int)) == s) = false := by simpa using hd
        repeat' (first | ((first | apply ga_dec | apply ga_ndec | apply cd_dec | apply cd_ndec | apply gd_dec | apply gd_ndec | apply ga_split | apply cd_split | apply gd_split) <;> intro hc <;> (try (simp -implicitDefEqProofs (maxSteps := 2000000) (disch := first | omega | (simp only [vz_push, vz_set, drop_size]; first | done | omega)) only [push_cast, seval, f7N0, f7N1, f7N2, f7N3, hc, hy, hx, hxx, hb])) <;> (try (exfalso; omega))) | refine VC_pure (hcp) ?_ | refine VC_pure (reader_ok hk _ _) ?_ | refine VC_pure (w1) ?_ | refine VC_pure (wd) ?_ | (simp -implicitDefEqProofs (maxSteps := 2000000) (disch := first | omega | (simp only [vz_push, vz_set, drop_size]; first | done | omega)) only [push_cast, seval, f7N0, f7N1, f7N2, f7N3, hy, hx, hxx, hb]))
        exact out_firm (KeepA.refl _) rfl (Firm.tup (all_cons (Firm.c _) (all_cons (Firm.c _) all_nil)))
  · rw [if_neg hs] at hcp ⊢
    rw [decide_eq_false hs] at hcp
    have w1 := reader1_ok hk 10 9223372036854775807 (.inl rfl) (by omega) (by omega) s hl
    cases hr : rdrR 10 9223372036854775807 s with
    | none =>
      rw [hr] at w1
      simp only [rdrV] at w1
      repeat' (first | ((first | apply ga_dec | apply ga_ndec | apply cd_dec | apply cd_ndec | apply gd_dec | apply gd_ndec | apply ga_split | apply cd_split | apply gd_split) <;> intro hc <;> (try (simp -implicitDefEqProofs (maxSteps := 2000000) (disch := first | omega | (simp only [vz_push, vz_set, drop_size]; first | done | omega)) only [push_cast, seval, f7N0, f7N1, f7N2, f7N3, hc])) <;> (try (exfalso; omega))) | refine VC_pure (hcp) ?_ | refine VC_pure (reader_ok hk _ _) ?_ | refine VC_pure (w1) ?_ | (simp -implicitDefEqProofs (maxSteps := 2000000) (disch := first | omega | (simp only [vz_push, vz_set, drop_size]; first | done | omega)) only [push_cast, seval, f7N0, f7N1, f7N2, f7N3]))
      exact out_firm (KeepA.refl _) rfl (Firm.tup (all_cons (Firm.c _) (all_cons (Firm.c _) all_nil)))
    | some u =>
      have hu : u ≤ 9223372036854775807 := by
        unfold rdrR at hr
        split at hr
        · cases hr
        · exact rdr_le (.inl rfl) (by omega) _ _ _ (Nat.zero_le _) hr
      rw [hr] at w1
      simp only [rdrV] at w1
      have wd := dec_ok hk (u : Int) (by omega) (by omega)
      simp only
      by_cases hd : decS (u : Int) = s
      · rw [if_pos hd]
        have hb : (decS (u : Int) == s) = true := by simpa using hd
        repeat' (first | ((first | apply ga_dec | apply ga_ndec | apply cd_dec | apply cd_ndec | apply gd_dec | apply gd_ndec | apply ga_split | apply cd_split | apply gd_split) <;> intro hc <;> (try (simp -implicitDefEqProofs (maxSteps := 2000000) (disch := first | omega | (simp only [vz_push, vz_set, drop_size]; first | done | omega)) only [push_cast, seval, f7N0, f7N1, f7N2, f7N3, hc, hb])) <;> (try (exfalso; omega))) | refine VC_pure (hcp) ?_ | refine VC_pure (reader_ok hk _ _) ?_ | refine VC_pure (w1) ?_ | refine VC_pure (wd) ?_ | (simp -implicitDefEqProofs (maxSteps := 2000000) (disch := first | omega | (simp only [vz_push, vz_set, drop_size]; first | done | omega)) only [push_cast, seval, f7N0, f7N1, f7N2, f7N3, hb]))
        exact out_firm (KeepA.refl _) rfl (Firm.tup (all_cons (Firm.c _) (all_cons (Firm.c _) all_nil)))
      · rw [if_neg hd]
        have hb : (decS (u : Int) == s) = false := by simpa using hd
        repeat' (first | ((first | apply ga_dec | apply ga_ndec | apply cd_dec | apply cd_ndec | apply gd_dec | apply gd_ndec | apply ga_split | apply cd_split | apply gd_split) <;> intro hc <;> (try (simp -implicitDefEqProofs (maxSteps := 2000000) (disch := first | omega | (simp only [vz_push, vz_set, drop_size]; first | done | omega)) only [push_cast, seval, f7N0, f7N1, f7N2, f7N3, hc, hb])) <;> (try (exfalso; omega))) | refine VC_pure (hcp) ?_ | refine VC_pure (reader_ok hk _ _) ?_ | refine VC_pure (w1) ?_ | refine VC_pure (wd) ?_ | (simp -implicitDefEqProofs (maxSteps := 2000000) (disch := first | omega | (simp only [vz_push, vz_set, drop_size]; first | done | omega)) only [push_cast, seval, f7N0, f7N1, f7N2, f7N3, hb]))
        exact out_firm (KeepA.refl _) rfl (Firm.tup (all_cons (Firm.c _) (all_cons (Firm.c _) all_nil)))
omit hk in
/-- A number's digits say it. -/
theorem undec_dec {n : Int} (h1 : -9223372036854775808 ≤ n) (h2 : n < 9223372036854775808) : undecR (decS n) = some n := by
  unfold undecR
  by_cases h0 : n < 0
  · have e : decS n = 45 :: digs 10 (-n).toNat := by unfold decS; rw [if_pos h0]
    have hne : digs 10 (-n).toNat ≠ [] := fun he => by have := digs_pos 10 (-n).toNat; rw [he] at this; simp at this
    rw [if_pos (by rw [e]; rfl)]
    have hr : rdrR 10 9223372036854775808 ((decS n).drop 1) = some (-n).toNat := by
      rw [e]
      unfold rdrR
      rw [List.drop_succ_cons, List.drop_zero, if_neg hne]
      exact rdr_digs (.inl rfl) _ _ (Nat.le_refl _) (by omega) (by omega)
    rw [hr]
    simp only
    rw [show -(((-n).toNat : Nat) : Int) = n by omega, if_pos rfl]
  · have e : decS n = digs 10 n.toNat := by unfold decS; rw [if_neg h0]
    obtain ⟨c, l, hc, hc2⟩ := digs10_head n.toNat n.toNat (Nat.le_refl _)
    have hne : decS n ≠ [] := by rw [e, hc]; simp
    rw [if_neg (by rw [e, hc]; simp; exact hc2)]
    have hr : rdrR 10 9223372036854775807 (decS n) = some n.toNat := by
      unfold rdrR
      rw [if_neg hne, e]
      exact rdr_digs (.inl rfl) _ _ (Nat.le_refl _) (by omega) (by omega)
    rw [hr]
    simp only
    rw [show ((n.toNat : Nat) : Int) = n by omega, if_pos rfl]
omit hk in
theorem undec_rng {s : List UInt8} {n : Int} (h : undecR s = some n) : -9223372036854775808 ≤ n ∧ n < 9223372036854775808 ∧ decS n = s := by
  have hle : ∀ most, 16 ≤ most → ∀ l u, rdrR 10 most l = some u → u ≤ most := fun most hm l u hr => by
    unfold rdrR at hr
    split at hr
    · cases hr
    · exact rdr_le (.inl rfl) hm _ _ _ (Nat.zero_le _) hr
  unfold undecR at h
  split at h
  · split at h
    · rename_i u hr
      have := hle _ (by omega) _ _ hr
      split at h
      · rename_i hd; cases h; exact ⟨by omega, by omega, hd⟩
      · cases h
    · cases h
  · split at h
    · rename_i u hr
      have := hle _ (by omega) _ _ hr
      split at h
      · rename_i hd; cases h; exact ⟨by omega, by omega, hd⟩
      · cases h
    · cases h
omit hk in
theorem decS_len {n : Int} (h1 : -9223372036854775808 ≤ n) (h2 : n < 9223372036854775808) : (decS n).length ≤ 65 := by
  unfold decS
  split
  · have := digs10_len (n := (-n).toNat) (by omega)
    simp; omega
  · have := digs10_len (n := n.toNat) (by omega)
    omega
theorem numDecs_ok (haw : k 5 [] = some (.bool true)) (n : Int) (h1 : -9223372036854775808 ≤ n) (h2 : n < 9223372036854775808) (b : ByteArray) (s : VS) :
    VC (XK k) 3 [.c (.int .i64 n), .c (.string b)] s fun r _ => r = .c (.bool true) := by
  have haw' : ∀ {vs : VS} {Q : AV → VS → Prop}, Q (.c (.bool true)) vs → VC (XK k) 5 [] vs Q := fun h => VC_known (ws := []) (v := .bool true) haw rfl rfl h
  obtain ⟨l, rfl⟩ : ∃ l : List UInt8, b = ⟨l.toArray⟩ := ⟨b.data.toList, (bytes_mk b).symm⟩
  refine f3_in (hk _ (by decide)) ?_
  by_cases hl : l.length ≤ 100
  · have w1 := dec_ok hk n h1 h2
    have w2 := undec_ok hk (decS n) (by have := decS_len h1 h2; omega)
    rw [undec_dec h1 h2] at w2
    have w3 := undec_ok hk l (by omega)
    have w4 := rdec_ok hk n.natAbs n (Nat.le_refl _) h1 h2
    simp only [undecV] at w2
    cases hu : undecR l with
    | none =>
      rw [hu] at w3
      simp only [undecV] at w3
      repeat' (first | ((first | apply ga_dec | apply ga_ndec | apply cd_dec | apply cd_ndec | apply gd_dec | apply gd_ndec | apply ga_split | apply cd_split | apply gd_split) <;> intro hc <;> (try (simp -implicitDefEqProofs (maxSteps := 2000000) (disch := first | omega | (simp only [vz_push, vz_set, drop_size]; first | done | omega)) only [push_cast, seval, f3N0, f3N1, hc])) <;> (try (exfalso; omega))) | refine haw' ?_ | refine VC_pure (w1) ?_ | refine VC_pure (w2) ?_ | refine VC_pure (w3) ?_ | refine VC_pure (w4) ?_ | (simp -implicitDefEqProofs (maxSteps := 2000000) (disch := first | omega | (simp only [vz_push, vz_set, drop_size]; first | done | omega)) only [push_cast, seval, f3N0, f3N1]))
    | some j =>
      obtain ⟨q1, q2, q3⟩ := undec_rng hu
      have w5 := rdec_ok hk j.natAbs j (Nat.le_refl _) q1 q2
      rw [q3] at w5
      rw [hu] at w3
      simp only [undecV] at w3
      repeat' (first | ((first | apply ga_dec | apply ga_ndec | apply cd_dec | apply cd_ndec | apply gd_dec | apply gd_ndec | apply ga_split | apply cd_split | apply gd_split) <;> intro hc <;> (try (simp -implicitDefEqProofs (maxSteps := 2000000) (disch := first | omega | (simp only [vz_push, vz_set, drop_size]; first | done | omega)) only [push_cast, seval, f3N0, f3N1, hc])) <;> (try (exfalso; omega))) | refine haw' ?_ | refine VC_pure (w1) ?_ | refine VC_pure (w2) ?_ | refine VC_pure (w3) ?_ | refine VC_pure (w4) ?_ | refine VC_pure (w5) ?_ | (simp -implicitDefEqProofs (maxSteps := 2000000) (disch := first | omega | (simp only [vz_push, vz_set, drop_size]; first | done | omega)) only [push_cast, seval, f3N0, f3N1]))
  · repeat' (first | ((first | apply ga_dec | apply ga_ndec | apply cd_dec | apply cd_ndec | apply gd_dec | apply gd_ndec | apply ga_split | apply cd_split | apply gd_split) <;> intro hc <;> (try (simp -implicitDefEqProofs (maxSteps := 2000000) (disch := first | omega | (simp only [vz_push, vz_set, drop_size]; first | done | omega)) only [push_cast, seval, f3N0, f3N1, hc])) <;> (try (exfalso; omega))) | refine haw' ?_ | (simp -implicitDefEqProofs (maxSteps := 2000000) (disch := first | omega | (simp only [vz_push, vz_set, drop_size]; first | done | omega)) only [push_cast, seval, f3N0, f3N1]))
omit hk in
/-- What reading hex digits answers, as the document says it. -/
theorem unhex_rdr {l : List UInt8} (hl : l.length ≤ 15) : rdrR 16 1152921504606846975 l = unhex l := by
  unfold rdrR unhex
  by_cases h0 : l = []
  · subst h0; rfl
  · have hp : 0 < l.length := List.length_pos_iff.2 h0
    rw [if_neg h0, rdr_hex 15 l 0 hl (by decide) (Nat.le_refl _)]
    cases hh : l.all hexB with
    | true => rw [if_pos rfl, if_pos ⟨hp, hl, rfl⟩]; rfl
    | false => rw [if_neg (by simp), if_neg (by simp)]
def unhexV (o : Option Nat) : AV := match o with
  | some n => .tup [.c (.int .i64 n), .c (.int .i64 0)]
  | none => .tup [.c (.int .i64 0), .c (.int .i64 6)]
theorem unhex_ok (s : List UInt8) (hl : s.length < 1000000) : PC (XK k) 13 [tx s] (unhexV (unhex s)) := by
  refine PC_of fun st => ?_
  refine f13_in (hk _ (by decide)) ?_
  by_cases h15 : s.length ≤ 15
  · have w1 := reader1_ok hk 16 1152921504606846975 (.inr rfl) (by omega) (by omega) s hl
    rw [unhex_rdr h15] at w1
    cases hu : unhex s with
    | none =>
      rw [hu] at w1
      simp only [rdrV] at w1
      repeat' (first | ((first | apply ga_dec | apply ga_ndec | apply cd_dec | apply cd_ndec | apply gd_dec | apply gd_ndec | apply ga_split | apply cd_split | apply gd_split) <;> intro hc <;> (try (simp -implicitDefEqProofs (maxSteps := 2000000) (disch := first | omega | (simp only [vz_push, vz_set, drop_size]; first | done | omega)) only [push_cast, seval, f13N0, f13N1, hc])) <;> (try (exfalso; omega))) | refine VC_pure (reader_ok hk _ _) ?_ | refine VC_pure (w1) ?_ | (simp -implicitDefEqProofs (maxSteps := 2000000) (disch := first | omega | (simp only [vz_push, vz_set, drop_size]; first | done | omega)) only [push_cast, seval, f13N0, f13N1]))
      exact out_firm (KeepA.refl _) rfl (Firm.tup (all_cons (Firm.c _) (all_cons (Firm.c _) all_nil)))
    | some u =>
      have hlt := unhex_lt hu
      rw [hu] at w1
      simp only [rdrV] at w1
      repeat' (first | ((first | apply ga_dec | apply ga_ndec | apply cd_dec | apply cd_ndec | apply gd_dec | apply gd_ndec | apply ga_split | apply cd_split | apply gd_split) <;> intro hc <;> (try (simp -implicitDefEqProofs (maxSteps := 2000000) (disch := first | omega | (simp only [vz_push, vz_set, drop_size]; first | done | omega)) only [push_cast, seval, f13N0, f13N1, hc])) <;> (try (exfalso; omega))) | refine VC_pure (reader_ok hk _ _) ?_ | refine VC_pure (w1) ?_ | (simp -implicitDefEqProofs (maxSteps := 2000000) (disch := first | omega | (simp only [vz_push, vz_set, drop_size]; first | done | omega)) only [push_cast, seval, f13N0, f13N1]))
      exact out_firm (KeepA.refl _) rfl (Firm.tup (all_cons (Firm.c _) (all_cons (Firm.c _) all_nil)))
  · have hu : unhex s = none := by unfold unhex; rw [if_neg (by omega)]
    rw [hu]
    (try (simp -implicitDefEqProofs (maxSteps := 2000000) (disch := first | omega | (simp only [vz_push, vz_set, drop_size]; first | done | omega)) only [push_cast, seval, f13N0, f13N1])) <;> (repeat' ((first | apply ga_dec | apply ga_ndec | apply cd_dec | apply cd_ndec | apply gd_dec | apply gd_ndec | apply ga_split | apply cd_split | apply gd_split) <;> intro hc <;> try (simp -implicitDefEqProofs (maxSteps := 2000000) (disch := first | omega | (simp only [vz_push, vz_set, drop_size]; first | done | omega)) only [push_cast, seval, f13N0, f13N1, hc])))
    all_goals first | (exfalso; omega) | skip
    exact out_firm (KeepA.refl _) rfl (Firm.tup (all_cons (Firm.c _) (all_cons (Firm.c _) all_nil)))
theorem rvalue_ok (c : UInt8) : PC (XK k) 20 [.c (.int .u8 c.toNat)] (.c (.int .i64 (idxB 16 c))) := by
  refine PC_of fun s => ?_
  refine f20_in (hk _ (by decide)) ?_
  have hc := c.toNat_lt
  unfold idxB
  cases hd : dof 16 c with
  | none =>
    unfold dof at hd
    (try (simp -implicitDefEqProofs (maxSteps := 2000000) (disch := first | omega | (simp only [vz_push, vz_set, drop_size]; first | done | omega)) only [push_cast, seval, f20N0, f20N1])) <;> (repeat' ((first | apply ga_dec | apply ga_ndec | apply cd_dec | apply cd_ndec | apply gd_dec | apply gd_ndec | apply ga_split | apply cd_split | apply gd_split) <;> intro hc <;> try (simp -implicitDefEqProofs (maxSteps := 2000000) (disch := first | omega | (simp only [vz_push, vz_set, drop_size]; first | done | omega)) only [push_cast, seval, f20N0, f20N1, hc])))
    all_goals first
      | exact out_int (KeepA.refl _) rfl
      | (exfalso; split at hd; cases hd; split at hd; cases hd; omega)
  | some d =>
    unfold dof at hd
    (try (simp -implicitDefEqProofs (maxSteps := 2000000) (disch := first | omega | (simp only [vz_push, vz_set, drop_size]; first | done | omega)) only [push_cast, seval, f20N0, f20N1])) <;> (repeat' ((first | apply ga_dec | apply ga_ndec | apply cd_dec | apply cd_ndec | apply gd_dec | apply gd_ndec | apply ga_split | apply cd_split | apply gd_split) <;> intro hc <;> try (simp -implicitDefEqProofs (maxSteps := 2000000) (disch := first | omega | (simp only [vz_push, vz_set, drop_size]; first | done | omega)) only [push_cast, seval, f20N0, f20N1, hc])))
    all_goals
      refine out_int (KeepA.refl _) ?_
      split at hd
      · cases hd; omega
      · split at hd
        · cases hd; omega
        · cases hd
def runhexI (o : Option Nat) : Int := match o with
  | some n => n
  | none => -1
omit hk in
theorem unhex_none {s : List UInt8} {c : UInt8} (hc : c ∈ s) (h : hexB c = false) : unhex s = none := by
  unfold unhex
  rw [if_neg]
  rintro ⟨_, _, h3⟩
  rw [List.all_eq_true.1 h3 c hc] at h
  cases h
theorem runhex_ok (s : List UInt8) (hl : s.length < 1000000) : PC (XK k) 14 [tx s] (.c (.int .i64 (runhexI (unhex s)))) := by
  refine PC_of fun st => ?_
  refine f14_in (hk _ (by decide)) ?_
  by_cases h15 : 0 < s.length ∧ s.length ≤ 15
  · (try (simp -implicitDefEqProofs (maxSteps := 2000000) (disch := first | omega | (simp only [vz_push, vz_set, drop_size]; first | done | omega)) only [push_cast, seval, f14N0, f14N1, f14N2, f14N3])) <;> (repeat' ((first | apply ga_dec | apply ga_ndec | apply cd_dec | apply cd_ndec | apply gd_dec | apply gd_ndec | apply ga_split | apply cd_split | apply gd_split) <;> intro hc <;> try (simp -implicitDefEqProofs (maxSteps := 2000000) (disch := first | omega | (simp only [vz_push, vz_set, drop_size]; first | done | omega)) only [push_cast, seval, f14N0, f14N1, f14N2, f14N3, hc])))
    all_goals first | (exfalso; omega) | skip
    refine VW_iter (fun m ρ s' => ∃ i : Nat, m = s.length - i ∧ i ≤ s.length ∧ ρ.get 0 = tx s ∧ ρ.get 3 = .c (.int .i64 (valH (s.take i))) ∧ ρ.get 4 = .c (.int .i64 i) ∧ ((s.take i).all hexB = true) ∧ (s' = st)) (s.length) ⟨0, rfl, Nat.zero_le _, by (((try simp -implicitDefEqProofs only [eA_tmp, eA_const, AEnv.get_set, ofA_get, List.getD_cons_zero, List.getD_cons_succ, ↓reduceIte, reduceCtorEq, Nat.reduceEqDiff]); try (first | (with_reducible assumption) | (with_reducible rfl) | (congr 2 <;> omega) | rfl))), by (((try simp -implicitDefEqProofs only [eA_tmp, eA_const, AEnv.get_set, ofA_get, List.getD_cons_zero, List.getD_cons_succ, ↓reduceIte, reduceCtorEq, Nat.reduceEqDiff]); try (first | (with_reducible assumption) | (with_reducible rfl) | (congr 2 <;> omega) | rfl))), by (((try simp -implicitDefEqProofs only [eA_tmp, eA_const, AEnv.get_set, ofA_get, List.getD_cons_zero, List.getD_cons_succ, ↓reduceIte, reduceCtorEq, Nat.reduceEqDiff]); try (first | (with_reducible assumption) | (with_reducible rfl) | (congr 2 <;> omega) | rfl))), rfl, rfl⟩ ?_
    rintro m ρ s' ⟨i, rfl, hi, g0, g3, g4, j1, j2⟩
    subst j2
    by_cases hc : i < s.length
    · obtain ⟨x, hx⟩ : ∃ x, s[i]? = some x := ⟨_, List.getElem?_eq_getElem hc⟩
      have hst : s.take (i + 1) = s.take i ++ [x] := take_snoc hx
      have hv := valH_lt14 j1 (by rw [List.length_take]; omega)
      cases hh : hexB x with
      | false =>
        have hu := unhex_none (List.mem_of_getElem? hx) hh
        have hix : idxB 16 x = -1 := by
          unfold idxB
          unfold hexB at hh
          cases hd : dof 16 x with
          | none => rfl
          | some d => rw [hd] at hh; cases hh
        have w := rvalue_ok hk x
        rw [hix] at w
        rw [hu]
        repeat' (first | ((first | apply ga_dec | apply ga_ndec | apply cd_dec | apply cd_ndec | apply gd_dec | apply gd_ndec | apply ga_split | apply cd_split | apply gd_split) <;> intro hc <;> (try (simp -implicitDefEqProofs (maxSteps := 2000000) (disch := first | omega | (simp only [vz_push, vz_set, drop_size]; first | done | omega)) only [push_cast, seval, f14N0, f14N1, f14N2, f14N3, hc, g0, g3, g4, hx])) <;> (try (exfalso; omega))) | refine VC_pure (w) ?_ | (simp -implicitDefEqProofs (maxSteps := 2000000) (disch := first | omega | (simp only [vz_push, vz_set, drop_size]; first | done | omega)) only [push_cast, seval, f14N0, f14N1, f14N2, f14N3, g0, g3, g4, hx]))
        exact out_int (KeepA.refl _) rfl
      | true =>
        have hdv := dval_lt hh
        have hix : idxB 16 x = (dval x : Int) := by unfold idxB; rw [hexB_val hh]
        have w := rvalue_ok hk x
        rw [hix] at w
        repeat' (first | ((first | apply ga_dec | apply ga_ndec | apply cd_dec | apply cd_ndec | apply gd_dec | apply gd_ndec | apply ga_split | apply cd_split | apply gd_split) <;> intro hc <;> (try (simp -implicitDefEqProofs (maxSteps := 2000000) (disch := first | omega | (simp only [vz_push, vz_set, drop_size]; first | done | omega)) only [push_cast, seval, f14N0, f14N1, f14N2, f14N3, hc, g0, g3, g4, hx])) <;> (try (exfalso; omega))) | refine VC_pure (w) ?_ | (simp -implicitDefEqProofs (maxSteps := 2000000) (disch := first | omega | (simp only [vz_push, vz_set, drop_size]; first | done | omega)) only [push_cast, seval, f14N0, f14N1, f14N2, f14N3, g0, g3, g4, hx]))
        refine ⟨_ - (i + 1), by omega, i + 1, rfl, by omega, ?_⟩ <;> (try simp only [Int.natCast_add, Int.natCast_one, cast_lit, and_true, true_and, eq_self])
        refine ⟨?_, by rw [hst, List.all_append, j1]; simp [hh]⟩
        rw [hst, valH_snoc]
        congr 2
    · obtain rfl : i = s.length := by omega
      rw [List.take_length] at g3 j1
      have hu : unhex s = some (valH s) := by unfold unhex; rw [if_pos ⟨h15.1, h15.2, j1⟩]
      rw [hu]
      repeat' (first | ((first | apply ga_dec | apply ga_ndec | apply cd_dec | apply cd_ndec | apply gd_dec | apply gd_ndec | apply ga_split | apply cd_split | apply gd_split) <;> intro hc <;> (try (simp -implicitDefEqProofs (maxSteps := 2000000) (disch := first | omega | (simp only [vz_push, vz_set, drop_size]; first | done | omega)) only [push_cast, seval, f14N0, f14N1, f14N2, f14N3, hc, g0, g3, g4])) <;> (try (exfalso; omega))) | (simp -implicitDefEqProofs (maxSteps := 2000000) (disch := first | omega | (simp only [vz_push, vz_set, drop_size]; first | done | omega)) only [push_cast, seval, f14N0, f14N1, f14N2, f14N3, g0, g3, g4]))
      exact out_int (KeepA.refl _) rfl
  · have hu : unhex s = none := by unfold unhex; rw [if_neg (by omega)]
    rw [hu]
    (try (simp -implicitDefEqProofs (maxSteps := 2000000) (disch := first | omega | (simp only [vz_push, vz_set, drop_size]; first | done | omega)) only [push_cast, seval, f14N0, f14N1, f14N2, f14N3])) <;> (repeat' ((first | apply ga_dec | apply ga_ndec | apply cd_dec | apply cd_ndec | apply gd_dec | apply gd_ndec | apply ga_split | apply cd_split | apply gd_split) <;> intro hc <;> try (simp -implicitDefEqProofs (maxSteps := 2000000) (disch := first | omega | (simp only [vz_push, vz_set, drop_size]; first | done | omega)) only [push_cast, seval, f14N0, f14N1, f14N2, f14N3, hc])))
    all_goals first | (exfalso; omega) | exact out_int (KeepA.refl _) rfl
theorem low_ok (a b : Int) : PC (XK k) 11 [.c (.int .i64 a), .c (.int .i64 b)] (.c (.int .i64 (min a b))) := by
  refine PC_of fun s => ?_
  refine f11_in (hk _ (by decide)) ?_
  (try (simp -implicitDefEqProofs (maxSteps := 2000000) (disch := first | omega | (simp only [vz_push, vz_set, drop_size]; first | done | omega)) only [push_cast, seval, f11N0, f11N1])) <;> (repeat' ((first | apply ga_dec | apply ga_ndec | apply cd_dec | apply cd_ndec | apply gd_dec | apply gd_ndec | apply ga_split | apply cd_split | apply gd_split) <;> intro hc <;> try (simp -implicitDefEqProofs (maxSteps := 2000000) (disch := first | omega | (simp only [vz_push, vz_set, drop_size]; first | done | omega)) only [push_cast, seval, f11N0, f11N1, hc])))
  all_goals exact out_int (KeepA.refl _) (by omega)
theorem high_ok (a b : Int) : PC (XK k) 12 [.c (.int .i64 a), .c (.int .i64 b)] (.c (.int .i64 (max a b))) := by
  refine PC_of fun s => ?_
  refine f12_in (hk _ (by decide)) ?_
  (try (simp -implicitDefEqProofs (maxSteps := 2000000) (disch := first | omega | (simp only [vz_push, vz_set, drop_size]; first | done | omega)) only [push_cast, seval, f12N0, f12N1])) <;> (repeat' ((first | apply ga_dec | apply ga_ndec | apply cd_dec | apply cd_ndec | apply gd_dec | apply gd_ndec | apply ga_split | apply cd_split | apply gd_split) <;> intro hc <;> try (simp -implicitDefEqProofs (maxSteps := 2000000) (disch := first | omega | (simp only [vz_push, vz_set, drop_size]; first | done | omega)) only [push_cast, seval, f12N0, f12N1, hc])))
  all_goals exact out_int (KeepA.refl _) (by omega)
theorem numHexes_ok (hrep : ∀ d : Nat, d ≤ 16 → PC (XK k) 19 [tx [48], .c (.int .i64 d)] (tx (List.replicate d 48))) (haw : k 5 [] = some (.bool true)) (n a : Int) (h1 : -9223372036854775808 ≤ n) (h2 : n < 9223372036854775808) (b : ByteArray) (s : VS) :
    VC (XK k) 4 [.c (.int .i64 n), .c (.int .i64 a), .c (.string b)] s fun r _ => r = .c (.bool true) := by
  have haw' : ∀ {vs : VS} {Q : AV → VS → Prop}, Q (.c (.bool true)) vs → VC (XK k) 5 [] vs Q := fun h => VC_known (ws := []) (v := .bool true) haw rfl rfl h
  obtain ⟨l, rfl⟩ : ∃ l : List UInt8, b = ⟨l.toArray⟩ := ⟨b.data.toList, (bytes_mk b).symm⟩
  refine f4_in (hk _ (by decide)) ?_
  by_cases hl : l.length ≤ 100
  · have w1 := hex_ok hk hrep n a h2
    have w3 := unhex_ok hk l (by omega)
    have w4 := runhex_ok hk l (by omega)
    by_cases h0 : n < 0
    · have he : hexI n a = [] := by unfold hexI; rw [if_pos h0]
      rw [he] at w1
      have w2 := unhex_ok hk [] (by simp)
      have hu0 : unhex [] = none := by unfold unhex; simp
      rw [hu0] at w2
      simp only [unhexV] at w2
      cases hu : unhex l with
      | none =>
        rw [hu] at w3 w4
        simp only [unhexV, runhexI] at w3 w4
        repeat' (first | ((first | apply ga_dec | apply ga_ndec | apply cd_dec | apply cd_ndec | apply gd_dec | apply gd_ndec | apply ga_split | apply cd_split | apply gd_split) <;> intro hc <;> (try (simp -implicitDefEqProofs (maxSteps := 2000000) (disch := first | omega | (simp only [vz_push, vz_set, drop_size]; first | done | omega)) only [push_cast, seval, f4N0, f4N1, f4N2, f4N3, hc])) <;> (try (exfalso; omega))) | refine haw' ?_ | refine VC_pure (w1) ?_ | refine VC_pure (w2) ?_ | refine VC_pure (w3) ?_ | refine VC_pure (w4) ?_ | (simp -implicitDefEqProofs (maxSteps := 2000000) (disch := first | omega | (simp only [vz_push, vz_set, drop_size]; first | done | omega)) only [push_cast, seval, f4N0, f4N1, f4N2, f4N3]))
      | some j =>
        rw [hu] at w3 w4
        simp only [unhexV, runhexI] at w3 w4
        repeat' (first | ((first | apply ga_dec | apply ga_ndec | apply cd_dec | apply cd_ndec | apply gd_dec | apply gd_ndec | apply ga_split | apply cd_split | apply gd_split) <;> intro hc <;> (try (simp -implicitDefEqProofs (maxSteps := 2000000) (disch := first | omega | (simp only [vz_push, vz_set, drop_size]; first | done | omega)) only [push_cast, seval, f4N0, f4N1, f4N2, f4N3, hc])) <;> (try (exfalso; omega))) | refine haw' ?_ | refine VC_pure (w1) ?_ | refine VC_pure (w2) ?_ | refine VC_pure (w3) ?_ | refine VC_pure (w4) ?_ | (simp -implicitDefEqProofs (maxSteps := 2000000) (disch := first | omega | (simp only [vz_push, vz_set, drop_size]; first | done | omega)) only [push_cast, seval, f4N0, f4N1, f4N2, f4N3]))
    · obtain ⟨m, rfl⟩ := Int.eq_ofNat_of_zero_le (by omega : 0 ≤ n)
      obtain ⟨c, hc⟩ : ∃ c : Nat, min (max a 1) 16 = (c : Int) := ⟨(min (max a 1) 16).toNat, by omega⟩
      have hcr : 1 ≤ c ∧ c ≤ 16 := by omega
      have he : hexI m a = hexP m c := by unfold hexI; rw [if_neg h0, hc]; rfl
      rw [he] at w1
      have w5 := rhex_ok hk _ m c (Nat.le_refl _) (by omega) (by omega) (by omega)
      rw [hexR_same, Int.toNat_natCast] at w5
      have w6 := high_ok hk a 1
      have w7 := low_ok hk (max a 1) 16
      rw [hc] at w7
      have hpl := hexP_len m c 63 (by omega) (by omega)
      have w2 := unhex_ok hk (hexP m c) (by omega)
      by_cases h15 : (hexP m c).length ≤ 15
      · rw [unhex_hexP h15 (by omega)] at w2
        simp only [unhexV] at w2
        cases hu : unhex l with
        | none =>
          rw [hu] at w3 w4
          simp only [unhexV, runhexI] at w3 w4
          repeat' (first | ((first | apply ga_dec | apply ga_ndec | apply cd_dec | apply cd_ndec | apply gd_dec | apply gd_ndec | apply ga_split | apply cd_split | apply gd_split) <;> intro hc <;> (try (simp -implicitDefEqProofs (maxSteps := 2000000) (disch := first | omega | (simp only [vz_push, vz_set, drop_size]; first | done | omega)) only [push_cast, seval, f4N0, f4N1, f4N2, f4N3, hc])) <;> (try (exfalso; omega))) | refine haw' ?_ | refine VC_pure (w1) ?_ | refine VC_pure (w2) ?_ | refine VC_pure (w3) ?_ | refine VC_pure (w4) ?_ | refine VC_pure (w5) ?_ | refine VC_pure (w6) ?_ | refine VC_pure (w7) ?_ | (simp -implicitDefEqProofs (maxSteps := 2000000) (disch := first | omega | (simp only [vz_push, vz_set, drop_size]; first | done | omega)) only [push_cast, seval, f4N0, f4N1, f4N2, f4N3]))
        | some j =>
          rw [hu] at w3 w4
          simp only [unhexV, runhexI] at w3 w4
          repeat' (first | ((first | apply ga_dec | apply ga_ndec | apply cd_dec | apply cd_ndec | apply gd_dec | apply gd_ndec | apply ga_split | apply cd_split | apply gd_split) <;> intro hc <;> (try (simp -implicitDefEqProofs (maxSteps := 2000000) (disch := first | omega | (simp only [vz_push, vz_set, drop_size]; first | done | omega)) only [push_cast, seval, f4N0, f4N1, f4N2, f4N3, hc])) <;> (try (exfalso; omega))) | refine haw' ?_ | refine VC_pure (w1) ?_ | refine VC_pure (w2) ?_ | refine VC_pure (w3) ?_ | refine VC_pure (w4) ?_ | refine VC_pure (w5) ?_ | refine VC_pure (w6) ?_ | refine VC_pure (w7) ?_ | (simp -implicitDefEqProofs (maxSteps := 2000000) (disch := first | omega | (simp only [vz_push, vz_set, drop_size]; first | done | omega)) only [push_cast, seval, f4N0, f4N1, f4N2, f4N3]))
      · have hu1 : unhex (hexP m c) = none := by unfold unhex; rw [if_neg (by omega)]
        rw [hu1] at w2
        simp only [unhexV] at w2
        cases hu : unhex l with
        | none =>
          rw [hu] at w3 w4
          simp only [unhexV, runhexI] at w3 w4
          repeat' (first | ((first | apply ga_dec | apply ga_ndec | apply cd_dec | apply cd_ndec | apply gd_dec | apply gd_ndec | apply ga_split | apply cd_split | apply gd_split) <;> intro hc <;> (try (simp -implicitDefEqProofs (maxSteps := 2000000) (disch := first | omega | (simp only [vz_push, vz_set, drop_size]; first | done | omega)) only [push_cast, seval, f4N0, f4N1, f4N2, f4N3, hc])) <;> (try (exfalso; omega))) | refine haw' ?_ | refine VC_pure (w1) ?_ | refine VC_pure (w2) ?_ | refine VC_pure (w3) ?_ | refine VC_pure (w4) ?_ | refine VC_pure (w5) ?_ | refine VC_pure (w6) ?_ | refine VC_pure (w7) ?_ | (simp -implicitDefEqProofs (maxSteps := 2000000) (disch := first | omega | (simp only [vz_push, vz_set, drop_size]; first | done | omega)) only [push_cast, seval, f4N0, f4N1, f4N2, f4N3]))
        | some j =>
          rw [hu] at w3 w4
          simp only [unhexV, runhexI] at w3 w4
          repeat' (first | ((first | apply ga_dec | apply ga_ndec | apply cd_dec | apply cd_ndec | apply gd_dec | apply gd_ndec | apply ga_split | apply cd_split | apply gd_split) <;> intro hc <;> (try (simp -implicitDefEqProofs (maxSteps := 2000000) (disch := first | omega | (simp only [vz_push, vz_set, drop_size]; first | done | omega)) only [push_cast, seval, f4N0, f4N1, f4N2, f4N3, hc])) <;> (try (exfalso; omega))) | refine haw' ?_ | refine VC_pure (w1) ?_ | refine VC_pure (w2) ?_ | refine VC_pure (w3) ?_ | refine VC_pure (w4) ?_ | refine VC_pure (w5) ?_ | refine VC_pure (w6) ?_ | refine VC_pure (w7) ?_ | (simp -implicitDefEqProofs (maxSteps := 2000000) (disch := first | omega | (simp only [vz_push, vz_set, drop_size]; first | done | omega)) only [push_cast, seval, f4N0, f4N1, f4N2, f4N3]))
  · repeat' (first | ((first | apply ga_dec | apply ga_ndec | apply cd_dec | apply cd_ndec | apply gd_dec | apply gd_ndec | apply ga_split | apply cd_split | apply gd_split) <;> intro hc <;> (try (simp -implicitDefEqProofs (maxSteps := 2000000) (disch := first | omega | (simp only [vz_push, vz_set, drop_size]; first | done | omega)) only [push_cast, seval, f4N0, f4N1, f4N2, f4N3, hc])) <;> (try (exfalso; omega))) | refine haw' ?_ | (simp -implicitDefEqProofs (maxSteps := 2000000) (disch := first | omega | (simp only [vz_push, vz_set, drop_size]; first | done | omega)) only [push_cast, seval, f4N0, f4N1, f4N2, f4N3]))
end
end Go.Proofs.Ytpckldhojfjdmaa.Ab
