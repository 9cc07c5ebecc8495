import Derived.Test.YticllcglldbffaaDoorN2
import Derived.Test.YticllcglldbffaaDoorM1
import Derived.Test.YticllcglldbffaaDoorG6
namespace Go.Proofs.YticllcglldbffaaDoor.Ab
open Go.Proofs
set_option maxRecDepth 100000
set_option maxHeartbeats 4000000
set_option linter.unusedSimpArgs false
set_option linter.unusedVariables false
set_option linter.unnecessarySimpa false
set_option linter.unusedSectionVars false
def sgn : List UInt8 := [48, 49, 50, 51, 52, 53, 54, 55, 56, 57, 65, 66, 67, 68, 69, 70]
def SG (b : Nat) (c : UInt8) : Int := match dof b c with
  | some d => (d : Int)
  | none => -1
theorem SF : ((List.range 256).all fun n => Lib.indexByte (sgn.take 10) (UInt8.ofNat n) == SG 10 (UInt8.ofNat n)) = true := by kernel_rfl
theorem SJ : ((List.range 256).all fun n => Lib.indexByte sgn (UInt8.ofNat n) == SG 16 (UInt8.ofNat n)) = true := by kernel_rfl
theorem awX (c : UInt8) : Lib.indexByte (sgn.take 10) c = SG 10 c := by
  have := List.all_eq_true.1 SF c.toNat (List.mem_range.2 c.toNat_lt)
  rw [UInt8.ofNat_toNat] at this
  simpa using this
theorem awR (c : UInt8) : Lib.indexByte sgn c = SG 16 c := by
  have := List.all_eq_true.1 SJ c.toNat (List.mem_range.2 c.toNat_lt)
  rw [UInt8.ofNat_toNat] at this
  simpa using this
def nc (b most : Nat) (l : List UInt8) : Option Nat := if l = [] then none else rdr b most 0 l
def Z4 (o : Option Nat) : AV := match o with
  | some v => .tup [.c (.int .u64 v), .c (.bool true)]
  | none => .tup [.c (.int .u64 0), .c (.bool false)]
section
variable {k : Nat → List Value → Option Value} (hk : ∀ f, f ≠ 105 → f ≠ 149 → ax k f)
include hk
theorem gO (b m : Int) : PC (XK k) 133 [.c (.int .u64 b), .c (.int .u64 m)] (.fn 146 [] [.fptr [.c (.int .u64 b)] 0, .fptr [.c (.int .u64 m)] 0]) := by
  refine aI fun s => ?_
  refine alC (hk _ (by decide) (by decide)) ?_
  (try (simp -implicitDefEqProofs (maxSteps := 2000000) (disch := first | omega | (simp only [ac, ae, ab]; first | done | omega)) only [push_cast, seval, ah3])) <;> (repeat' ((first | apply ao | apply aj | apply am | apply al | apply an | apply ak | apply ai | apply ag | apply ah) <;> intro hc <;> try (simp -implicitDefEqProofs (maxSteps := 2000000) (disch := first | omega | (simp only [ac, ae, ab]; first | done | omega)) only [push_cast, seval, ah3, hc])))
  refine ⟨by (repeat first | assumption | exact af.refl _ | apply af.push | refine af.set ?_ (by first | omega | (simp only [ac, ae, ab]; omega) | (have h9 := af.size_le (by assumption); (try simp only [ac, ae, ab] at *); omega)) _ | refine af.drop ?_ (by first | omega | (simp only [ac, ae, ab]; omega) | (have h9 := af.size_le (by assumption); (try simp only [ac, ae, ab] at *); omega)) | refine af.trans ?_ (by assumption)), Se.fn Ses.nil (Ses.cons (Se.box (b := s.size) (e := 114) (by (simp -implicitDefEqProofs (disch := first | omega | (simp only [ac, ae, ab]; first | done | omega)) only [eu, dN, bB, bZ, ef])) (by omega) (Se.c _)) (Ses.cons (Se.box (b := s.size + 1) (e := 114) (by (simp -implicitDefEqProofs (disch := first | omega | (simp only [ac, ae, ab]; first | done | omega)) only [eu, dN, bB, bZ, ef])) (by omega) (Se.c _)) Ses.nil))⟩
theorem vo (b most : Nat) (hb : b = 10 ∨ b = 16) (hm : most < 18446744073709551616) (hm1 : 16 ≤ most) (l : List UInt8) (hl : l.length < 1000000) : PC (XK k) 146 [tx l, .fptr [.c (.int .u64 b)] 0, .fptr [.c (.int .u64 most)] 0] (Z4 (nc b most l)) := by
  refine aI fun s => ?_
  refine alP (hk _ (by decide) (by decide)) ?_
  have hi := ju hk
  by_cases he : l = []
  · subst he
    (try (simp -implicitDefEqProofs (maxSteps := 2000000) (disch := first | omega | (simp only [ac, ae, ab]; first | done | omega)) only [push_cast, seval, fV, fZ, fW, fJ])) <;> (repeat' ((first | apply ao | apply aj | apply am | apply al | apply an | apply ak | apply ai | apply ag | apply ah) <;> intro hc <;> try (simp -implicitDefEqProofs (maxSteps := 2000000) (disch := first | omega | (simp only [ac, ae, ab]; first | done | omega)) only [push_cast, seval, fV, fZ, fW, fJ, hc])))
    exact bH (by (repeat first | assumption | exact af.refl _ | apply af.push | refine af.set ?_ (by first | omega | (simp only [ac, ae, ab]; omega) | (have h9 := af.size_le (by assumption); (try simp only [ac, ae, ab] at *); omega)) _ | refine af.drop ?_ (by first | omega | (simp only [ac, ae, ab]; omega) | (have h9 := af.size_le (by assumption); (try simp only [ac, ae, ab] at *); omega)) | refine af.trans ?_ (by assumption))) rfl (az.tup (all_cons (az.c _) (all_cons (az.c _) all_nil)))
  · have hbe : (l == []) = false := by simpa using he
    have hR : nc b most l = rdr b most 0 l := by unfold nc; rw [if_neg he]
    rw [hR]
    repeat' (first | ((first | apply ao | apply aj | apply am | apply al | apply an | apply ak | apply ai | apply ag | apply ah) <;> intro hc <;> (try (simp -implicitDefEqProofs (maxSteps := 2000000) (disch := first | omega | (simp only [ac, ae, ab]; first | done | omega)) only [push_cast, seval, fV, fZ, fW, fJ, hc, hbe])) <;> (try (exfalso; omega))) | (simp -implicitDefEqProofs (maxSteps := 2000000) (disch := first | omega | (simp only [ac, ae, ab]; first | done | omega)) only [push_cast, seval, fV, fZ, fW, fJ, hbe]))
    refine aM (fun m ρ s' => ∃ (i u : Nat), m = l.length - i ∧ i ≤ l.length ∧ u ≤ most ∧ rdr b most 0 l = rdr b most u (l.drop i) ∧ ρ.get 0 = tx l ∧ ρ.get 1 = .fptr [.c (.int .u64 b)] 0 ∧ ρ.get 2 = .fptr [.c (.int .u64 most)] 0 ∧ ρ.get 6 = .c (.int .u64 u) ∧ ρ.get 7 = .c (.int .i64 i) ∧ s' = s) l.length
      ⟨0, 0, rfl, Nat.zero_le _, Nat.zero_le _, by rw [List.drop_zero], by (((try simp -implicitDefEqProofs only [aw, aq, au.get_set, ar, List.getD_cons_zero, List.getD_cons_succ, ↓reduceIte, reduceCtorEq, Nat.reduceEqDiff]); try (first | (with_reducible assumption) | (with_reducible rfl) | (congr 2 <;> omega) | rfl))), by (((try simp -implicitDefEqProofs only [aw, aq, au.get_set, ar, List.getD_cons_zero, List.getD_cons_succ, ↓reduceIte, reduceCtorEq, Nat.reduceEqDiff]); try (first | (with_reducible assumption) | (with_reducible rfl) | (congr 2 <;> omega) | rfl))), by (((try simp -implicitDefEqProofs only [aw, aq, au.get_set, ar, List.getD_cons_zero, List.getD_cons_succ, ↓reduceIte, reduceCtorEq, Nat.reduceEqDiff]); try (first | (with_reducible assumption) | (with_reducible rfl) | (congr 2 <;> omega) | rfl))), by (((try simp -implicitDefEqProofs only [aw, aq, au.get_set, ar, List.getD_cons_zero, List.getD_cons_succ, ↓reduceIte, reduceCtorEq, Nat.reduceEqDiff]); try (first | (with_reducible assumption) | (with_reducible rfl) | (congr 2 <;> omega) | rfl))), by (((try simp -implicitDefEqProofs only [aw, aq, au.get_set, ar, List.getD_cons_zero, List.getD_cons_succ, ↓reduceIte, reduceCtorEq, Nat.reduceEqDiff]); try (first | (with_reducible assumption) | (with_reducible rfl) | (congr 2 <;> omega) | rfl))), rfl⟩ ?_
    rintro m ρ s' ⟨i, u, rfl, hil, hu, hr, g0, g1, g2, g6, g7, rfl⟩
    by_cases hc : i < l.length
    · obtain ⟨x, hx⟩ : ∃ x, l[i]? = some x := ⟨_, List.getElem?_eq_getElem hc⟩
      have hd : l.drop i = x :: l.drop (i + 1) := by rw [List.drop_eq_getElem_cons hc, (List.getElem?_eq_some_iff.1 hx).2]
      have hs16 : List.take 16 sgn = sgn := rfl
      have hq : Lib.indexByte (sgn.take b) x = SG b x := by rcases hb with rfl | rfl; exact awX x; rw [hs16]; exact awR x
      have hii := hi (sgn.take b) x
      rw [hq] at hii
      rw [hd, rdr] at hr
      unfold SG at hii
      cases hdo : dof b x with
      | none =>
        rw [hdo] at hii hr
        simp only at hii hr
        rw [hr]
        rcases hb with rfl | rfl
        all_goals
          simp only [sgn, List.take_succ_cons, List.take_zero] at hii
          repeat' (first | ((first | apply ao | apply aj | apply am | apply al | apply an | apply ak | apply ai | apply ag | apply ah) <;> intro hc <;> (try (simp -implicitDefEqProofs (maxSteps := 2000000) (disch := first | omega | (simp only [ac, ae, ab]; first | done | omega)) only [push_cast, seval, fV, fZ, fW, fJ, hc, g0, g1, g2, g6, g7, hx])) <;> (try (exfalso; omega))) | refine ap (hii) ?_ | (simp -implicitDefEqProofs (maxSteps := 2000000) (disch := first | omega | (simp only [ac, ae, ab]; first | done | omega)) only [push_cast, seval, fV, fZ, fW, fJ, g0, g1, g2, g6, g7, hx]))
          exact bH (by (repeat first | assumption | exact af.refl _ | apply af.push | refine af.set ?_ (by first | omega | (simp only [ac, ae, ab]; omega) | (have h9 := af.size_le (by assumption); (try simp only [ac, ae, ab] at *); omega)) _ | refine af.drop ?_ (by first | omega | (simp only [ac, ae, ab]; omega) | (have h9 := af.size_le (by assumption); (try simp only [ac, ae, ab] at *); omega)) | refine af.trans ?_ (by assumption))) rfl (az.tup (all_cons (az.c _) (all_cons (az.c _) all_nil)))
      | some d =>
        have hdl := UQ hb hdo
        rw [hdo] at hii hr
        simp only at hii hr
        by_cases hov : (most - d) / b < u
        · rw [if_pos hov] at hr
          rw [hr]
          rcases hb with rfl | rfl
          all_goals
            simp only [sgn, List.take_succ_cons, List.take_zero] at hii
            repeat' (first | ((first | apply ao | apply aj | apply am | apply al | apply an | apply ak | apply ai | apply ag | apply ah) <;> intro hc <;> (try (simp -implicitDefEqProofs (maxSteps := 2000000) (disch := first | omega | (simp only [ac, ae, ab]; first | done | omega)) only [push_cast, seval, fV, fZ, fW, fJ, hc, g0, g1, g2, g6, g7, hx])) <;> (try (exfalso; omega))) | refine ap (hii) ?_ | (simp -implicitDefEqProofs (maxSteps := 2000000) (disch := first | omega | (simp only [ac, ae, ab]; first | done | omega)) only [push_cast, seval, fV, fZ, fW, fJ, g0, g1, g2, g6, g7, hx]))
            exact bH (by (repeat first | assumption | exact af.refl _ | apply af.push | refine af.set ?_ (by first | omega | (simp only [ac, ae, ab]; omega) | (have h9 := af.size_le (by assumption); (try simp only [ac, ae, ab] at *); omega)) _ | refine af.drop ?_ (by first | omega | (simp only [ac, ae, ab]; omega) | (have h9 := af.size_le (by assumption); (try simp only [ac, ae, ab] at *); omega)) | refine af.trans ?_ (by assumption))) rfl (az.tup (all_cons (az.c _) (all_cons (az.c _) all_nil)))
        · rw [if_neg hov] at hr
          rcases hb with rfl | rfl
          all_goals
            simp only [sgn, List.take_succ_cons, List.take_zero] at hii
            repeat' (first | ((first | apply ao | apply aj | apply am | apply al | apply an | apply ak | apply ai | apply ag | apply ah) <;> intro hc <;> (try (simp -implicitDefEqProofs (maxSteps := 2000000) (disch := first | omega | (simp only [ac, ae, ab]; first | done | omega)) only [push_cast, seval, fV, fZ, fW, fJ, hc, g0, g1, g2, g6, g7, hx])) <;> (try (exfalso; omega))) | refine ap (hii) ?_ | (simp -implicitDefEqProofs (maxSteps := 2000000) (disch := first | omega | (simp only [ac, ae, ab]; first | done | omega)) only [push_cast, seval, fV, fZ, fW, fJ, g0, g1, g2, g6, g7, hx]))
            refine ⟨_, by omega, i + 1, u * _ + d, rfl, by omega, by omega, hr, ?_⟩
            exact ⟨by congr 2, by congr 2⟩
    · obtain rfl : i = l.length := by omega
      rw [List.drop_eq_nil_of_le (Nat.le_refl _), rdr] at hr
      rw [hr]
      repeat' (first | ((first | apply ao | apply aj | apply am | apply al | apply an | apply ak | apply ai | apply ag | apply ah) <;> intro hc <;> (try (simp -implicitDefEqProofs (maxSteps := 2000000) (disch := first | omega | (simp only [ac, ae, ab]; first | done | omega)) only [push_cast, seval, fV, fZ, fW, fJ, hc, g0, g1, g2, g6, g7])) <;> (try (exfalso; omega))) | (simp -implicitDefEqProofs (maxSteps := 2000000) (disch := first | omega | (simp only [ac, ae, ab]; first | done | omega)) only [push_cast, seval, fV, fZ, fW, fJ, g0, g1, g2, g6, g7]))
      exact bH (by (repeat first | assumption | exact af.refl _ | apply af.push | refine af.set ?_ (by first | omega | (simp only [ac, ae, ab]; omega) | (have h9 := af.size_le (by assumption); (try simp only [ac, ae, ab] at *); omega)) _ | refine af.drop ?_ (by first | omega | (simp only [ac, ae, ab]; omega) | (have h9 := af.size_le (by assumption); (try simp only [ac, ae, ab] at *); omega)) | refine af.trans ?_ (by assumption))) rfl (az.tup (all_cons (az.c _) (all_cons (az.c _) all_nil)))
theorem Ej (n : Int) (h1 : -9223372036854775808 ≤ n) (h2 : n < 9223372036854775808) : PC (XK k) 87 [.c (.int .i64 n)] (tx (aX n)) := by
  refine aI fun s => ?_
  refine avL (hk _ (by decide) (by decide)) ?_
  unfold aX
  by_cases h0 : n < 0
  · have e1 : IntKind.u64.wrap n = n + 18446744073709551616 := by unfold IntKind.wrap; simp [IntKind.signed, IntKind.bits]; omega
    have e2 : IntKind.u64.wrap (0 - (n + 18446744073709551616)) = ((-n).toNat : Int) := by unfold IntKind.wrap; simp [IntKind.signed, IntKind.bits]; omega
    have hl := nh (n := (-n).toNat) (by omega)
    rw [if_pos h0]
    repeat' (first | ((first | apply ao | apply aj | apply am | apply al | apply an | apply ak | apply ai | apply ag | apply ah) <;> intro hc <;> (try (simp -implicitDefEqProofs (maxSteps := 2000000) (disch := first | omega | (simp only [ac, ae, ab]; first | done | omega)) only [push_cast, seval, L2, OO, hc, e1, e2])) <;> (try (exfalso; omega))) | refine ap (wG hk _) ?_ | refine ap (uO hk 10 (-n).toNat (.inl rfl) (by omega)) ?_ | (simp -implicitDefEqProofs (maxSteps := 2000000) (disch := first | omega | (simp only [ac, ae, ab]; first | done | omega)) only [push_cast, seval, L2, OO, e1, e2]))
    exact ba (by (repeat first | assumption | exact af.refl _ | apply af.push | refine af.set ?_ (by first | omega | (simp only [ac, ae, ab]; omega) | (have h9 := af.size_le (by assumption); (try simp only [ac, ae, ab] at *); omega)) _ | refine af.drop ?_ (by first | omega | (simp only [ac, ae, ab]; omega) | (have h9 := af.size_le (by assumption); (try simp only [ac, ae, ab] at *); omega)) | refine af.trans ?_ (by assumption))) rfl
  · rw [if_neg h0]
    obtain ⟨m, rfl⟩ := Int.eq_ofNat_of_zero_le (by omega : 0 ≤ n)
    repeat' (first | ((first | apply ao | apply aj | apply am | apply al | apply an | apply ak | apply ai | apply ag | apply ah) <;> intro hc <;> (try (simp -implicitDefEqProofs (maxSteps := 2000000) (disch := first | omega | (simp only [ac, ae, ab]; first | done | omega)) only [push_cast, seval, L2, OO, hc])) <;> (try (exfalso; omega))) | refine ap (wG hk _) ?_ | refine ap (uO hk 10 m (.inl rfl) (by omega)) ?_ | (simp -implicitDefEqProofs (maxSteps := 2000000) (disch := first | omega | (simp only [ac, ae, ab]; first | done | omega)) only [push_cast, seval, L2, OO]))
    exact ba (by (repeat first | assumption | exact af.refl _ | apply af.push | refine af.set ?_ (by first | omega | (simp only [ac, ae, ab]; omega) | (have h9 := af.size_le (by assumption); (try simp only [ac, ae, ab] at *); omega)) _ | refine af.drop ?_ (by first | omega | (simp only [ac, ae, ab]; omega) | (have h9 := af.size_le (by assumption); (try simp only [ac, ae, ab] at *); omega)) | refine af.trans ?_ (by assumption))) rfl
theorem Pk : ∀ (m : Nat) (n : Int), n.natAbs ≤ m → -9223372036854775808 ≤ n → n < 9223372036854775808 → PC (XK k) 91 [.c (.int .i64 n)] (tx (aX n)) := by
  intro m
  induction m with
  | zero =>
    intro n hm _ _
    obtain rfl : n = 0 := by omega
    have hd : [dig 0] = aX 0 := by unfold aX; rw [if_neg (by omega)]; exact (dY (by decide)).symm
    refine aI fun s => ?_
    refine Wt (hk _ (by decide) (by decide)) ?_
    repeat' (first | ((first | apply ao | apply aj | apply am | apply al | apply an | apply ak | apply ai | apply ag | apply ah) <;> intro hc <;> (try (simp -implicitDefEqProofs (maxSteps := 2000000) (disch := first | omega | (simp only [ac, ae, ab]; first | done | omega)) only [push_cast, seval, mQ, mA, mp, hc])) <;> (try (exfalso; omega))) | refine ap (lf hk 0 (by omega)) ?_ | (simp -implicitDefEqProofs (maxSteps := 2000000) (disch := first | omega | (simp only [ac, ae, ab]; first | done | omega)) only [push_cast, seval, mQ, mA, mp]))
    exact ba (af.refl _) hd
  | succ m ih =>
    intro n hm h1 h2
    refine aI fun s => ?_
    refine Wt (hk _ (by decide) (by decide)) ?_
    by_cases h0 : n < 0
    · obtain ⟨a, rfl⟩ : ∃ a : Nat, n = -(a : Int) := ⟨n.natAbs, by omega⟩
      have hd : aX (-(a : Int)) = 45 :: dT 10 a := by unfold aX; rw [if_pos h0]; congr 2; omega
      have e1 : Int.tdiv (-(a : Int)) 10 = -((a / 10 : Nat) : Int) := by rw [Int.neg_tdiv, Int.tdiv_eq_ediv_of_nonneg (by omega)]; rfl
      have e2 : Int.tmod (-(a : Int)) 10 = -((a % 10 : Nat) : Int) := by rw [Int.neg_tmod, Int.tmod_eq_emod_of_nonneg (by omega)]; rfl
      have hdl := nh (n := a / 10) (by omega)
      by_cases h10 : a < 10
      · have hq : 45 :: [dig a] = aX (-(a : Int)) := by rw [hd, dY h10]
        repeat' (first | ((first | apply ao | apply aj | apply am | apply al | apply an | apply ak | apply ai | apply ag | apply ah) <;> intro hc <;> (try (simp -implicitDefEqProofs (maxSteps := 2000000) (disch := first | omega | (simp only [ac, ae, ab]; first | done | omega)) only [push_cast, seval, mQ, mA, mp, hc, e1, e2, Int.sub_neg])) <;> (try (exfalso; omega))) | refine ap (lf hk a (by omega)) ?_ | (simp -implicitDefEqProofs (maxSteps := 2000000) (disch := first | omega | (simp only [ac, ae, ab]; first | done | omega)) only [push_cast, seval, mQ, mA, mp, e1, e2, Int.sub_neg]))
        exact ba (af.refl _) hq
      · have hd2 : aX (-((a / 10 : Nat) : Int)) = 45 :: dT 10 (a / 10) := by unfold aX; rw [if_pos (by omega)]; congr 2; omega
        have w := ih (-((a / 10 : Nat) : Int)) (by omega) (by omega) (by omega)
        rw [hd2, show ((a / 10 : Nat) : Int) = (a : Int) / 10 by omega] at w
        have w2 := lf hk (a % 10) (by omega)
        rw [show ((a % 10 : Nat) : Int) = (a : Int) % 10 by omega] at w2
        have hq : 45 :: (dT 10 (a / 10) ++ [dig (a % 10)]) = aX (-(a : Int)) := by rw [hd, fk (by omega) (by omega : 10 ≤ a)]
        repeat' (first | ((first | apply ao | apply aj | apply am | apply al | apply an | apply ak | apply ai | apply ag | apply ah) <;> intro hc <;> (try (simp -implicitDefEqProofs (maxSteps := 2000000) (disch := first | omega | (simp only [ac, ae, ab]; first | done | omega)) only [push_cast, seval, mQ, mA, mp, hc, e1, e2, Int.sub_neg, hdl])) <;> (try (exfalso; omega))) | refine ap (w) ?_ | refine ap (w2) ?_ | (simp -implicitDefEqProofs (maxSteps := 2000000) (disch := first | omega | (simp only [ac, ae, ab]; first | done | omega)) only [push_cast, seval, mQ, mA, mp, e1, e2, Int.sub_neg, hdl]))
        exact ba (af.refl _) hq
    · obtain ⟨a, rfl⟩ := Int.eq_ofNat_of_zero_le (by omega : 0 ≤ n)
      have hd : aX (a : Int) = dT 10 a := by unfold aX; rw [if_neg h0]; rfl
      have e1 : (a : Int) / 10 = ((a / 10 : Nat) : Int) := by omega
      have e2 : (a : Int) % 10 = ((a % 10 : Nat) : Int) := by omega
      have hdl := nh (n := a / 10) (by omega)
      by_cases h10 : a < 10
      · have hq : [dig a] = aX (a : Int) := by rw [hd, dY h10]
        repeat' (first | ((first | apply ao | apply aj | apply am | apply al | apply an | apply ak | apply ai | apply ag | apply ah) <;> intro hc <;> (try (simp -implicitDefEqProofs (maxSteps := 2000000) (disch := first | omega | (simp only [ac, ae, ab]; first | done | omega)) only [push_cast, seval, mQ, mA, mp, hc])) <;> (try (exfalso; omega))) | refine ap (lf hk a (by omega)) ?_ | (simp -implicitDefEqProofs (maxSteps := 2000000) (disch := first | omega | (simp only [ac, ae, ab]; first | done | omega)) only [push_cast, seval, mQ, mA, mp]))
        exact ba (af.refl _) hq
      · have hd2 : aX ((a / 10 : Nat) : Int) = dT 10 (a / 10) := by unfold aX; rw [if_neg (by omega)]; rfl
        have w := ih ((a / 10 : Nat) : Int) (by omega) (by omega) (by omega)
        rw [hd2, ← e1] at w
        have w2 := lf hk (a % 10) (by omega)
        rw [← e2] at w2
        have hq : dT 10 (a / 10) ++ [dig (a % 10)] = aX (a : Int) := by rw [hd, fk (by omega) (by omega : 10 ≤ a)]
        repeat' (first | ((first | apply ao | apply aj | apply am | apply al | apply an | apply ak | apply ai | apply ag | apply ah) <;> intro hc <;> (try (simp -implicitDefEqProofs (maxSteps := 2000000) (disch := first | omega | (simp only [ac, ae, ab]; first | done | omega)) only [push_cast, seval, mQ, mA, mp, hc, hdl])) <;> (try (exfalso; omega))) | refine ap (w) ?_ | refine ap (w2) ?_ | (simp -implicitDefEqProofs (maxSteps := 2000000) (disch := first | omega | (simp only [ac, ae, ab]; first | done | omega)) only [push_cast, seval, mQ, mA, mp, hdl]))
        exact ba (af.refl _) hq
def eU (s : List UInt8) : Option Int :=
  if s.take 1 = [45] then match nc 10 9223372036854775808 (s.drop 1) with
    | some u => if aX (-(u : Int)) = s then some (-(u : Int)) else none
    | none => none
  else match nc 10 9223372036854775807 s with
    | some u => if aX u = s then some (u : Int) else none
    | none => none
def hO (o : Option Int) : AV := match o with
  | some n => .tup [.c (.int .i64 n), .c (.int .i64 0)]
  | none => .tup [.c (.int .i64 0), .c (.int .i64 6)]
omit hk in
theorem zj {b most : Nat} (hb : b = 10 ∨ b = 16) (hm : 16 ≤ most) : ∀ (l : List UInt8) (u v : Nat), u ≤ most → rdr b most u l = some v → v ≤ most
  | [], u, v, hu, h => by rw [rdr] at h; cases h; exact hu
  | c :: l, u, v, hu, h => by
    rw [rdr] at h
    split at h
    · cases h
    · rename_i d hd
      have := UQ hb hd
      split at h
      · cases h
      · refine zj hb hm l _ v ?_ h
        rcases hb with rfl | rfl <;> omega
theorem IB (s : List UInt8) (hl : s.length < 1000000) : PC (XK k) 116 [tx s] (hO (eU s)) := by
  refine aI fun st => ?_
  refine ak3 (hk _ (by decide) (by decide)) ?_
  have hcp := oo hk s [45] (by omega) (by simp)
  simp only [List.length_cons, List.length_nil, Nat.zero_add] at hcp
  unfold eU
  by_cases hs : s.take 1 = [45]
  · rw [if_pos hs] at hcp ⊢
    rw [decide_eq_true hs] at hcp
    have w1 := vo hk 10 9223372036854775808 (.inl rfl) (by omega) (by omega) (s.drop 1) (by rw [List.length_drop]; omega)
    cases hr : nc 10 9223372036854775808 (s.drop 1) with
    | none =>
      rw [hr] at w1
      simp only [Z4] at w1
      repeat' (first | ((first | apply ao | apply aj | apply am | apply al | apply an | apply ak | apply ai | apply ag | apply ah) <;> intro hc <;> (try (simp -implicitDefEqProofs (maxSteps := 2000000) (disch := first | omega | (simp only [ac, ae, ab]; first | done | omega)) only [push_cast, seval, fQ, fM, fI, fR, hc])) <;> (try (exfalso; omega))) | refine ap (hcp) ?_ | refine ap (gO hk _ _) ?_ | refine ap (w1) ?_ | (simp -implicitDefEqProofs (maxSteps := 2000000) (disch := first | omega | (simp only [ac, ae, ab]; first | done | omega)) only [push_cast, seval, fQ, fM, fI, fR]))
      exact bH (af.refl _) rfl (az.tup (all_cons (az.c _) (all_cons (az.c _) all_nil)))
    | some u =>
      have hu : u ≤ 9223372036854775808 := by
        unfold nc at hr
        split at hr
        · cases hr
        · exact zj (.inl rfl) (by omega) _ _ _ (Nat.zero_le _) hr
      rw [hr] at w1
      simp only [Z4] at w1
      obtain ⟨y, hy⟩ : ∃ y, IntKind.i64.wrap (u : Int) = y := ⟨_, rfl⟩
      obtain ⟨x, hx⟩ : ∃ x, IntKind.u64.wrap (0 - (u : Int)) = x := ⟨_, rfl⟩
      have hxx : IntKind.i64.wrap x = -(u : Int) := by
        rw [← hx]
        unfold IntKind.wrap
        simp [IntKind.signed, IntKind.bits]
        omega
      have wd := Ej hk (-(u : Int)) (by omega) (by omega)
      simp only
      by_cases hd : aX (-(u : Int)) = s
      · rw [if_pos hd]
        have hb : (aX (-(u : Int)) == s) = true := by simpa using hd
        repeat' (first | ((first | apply ao | apply aj | apply am | apply al | apply an | apply ak | apply ai | apply ag | apply ah) <;> intro hc <;> (try (simp -implicitDefEqProofs (maxSteps := 2000000) (disch := first | omega | (simp only [ac, ae, ab]; first | done | omega)) only [push_cast, seval, fQ, fM, fI, fR, hc, hy, hx, hxx, hb])) <;> (try (exfalso; omega))) | refine ap (hcp) ?_ | refine ap (gO hk _ _) ?_ | refine ap (w1) ?_ | refine ap (wd) ?_ | (simp -implicitDefEqProofs (maxSteps := 2000000) (disch := first | omega | (simp only [ac, ae, ab]; first | done | omega)) only [push_cast, seval, fQ, fM, fI, fR, hy, hx, hxx, hb]))
        exact bH (af.refl _) rfl (az.tup (all_cons (az.c _) (all_cons (az.c _) all_nil)))
      · rw [if_neg hd]
        have hb : (aX (-(u : Int)) == s) = false := by simpa using hd
        repeat' (first | ((first | apply ao | apply aj | apply am | apply al | apply an | apply ak | apply ai | apply ag | apply ah) <;> intro hc <;> (try (simp -implicitDefEqProofs (maxSteps := 2000000) (disch := first | omega | (simp only [ac, ae, ab]; first | done | omega)) only [push_cast, seval, fQ, fM, fI, fR, hc, hy, hx, hxx, hb])) <;> (try (exfalso; omega))) | refine ap (hcp) ?_ | refine ap (gO hk _ _) ?_ | refine ap (w1) ?_ | refine ap (wd) ?_ | (simp -implicitDefEqProofs (maxSteps := 2000000) (disch := first | omega | (simp only [ac, ae, ab]; first | done | omega)) only [push_cast, seval, fQ, fM, fI, fR, hy, hx, hxx, hb]))
        exact bH (af.refl _) rfl (az.tup (all_cons (az.c _) (all_cons (az.c _) all_nil)))
  · rw [if_neg hs] at hcp ⊢
    rw [decide_eq_false hs] at hcp
    have w1 := vo hk 10 9223372036854775807 (.inl rfl) (by omega) (by omega) s hl
    cases hr : nc 10 9223372036854775807 s with
    | none =>
      rw [hr] at w1
      simp only [Z4] at w1
      repeat' (first | ((first | apply ao | apply aj | apply am | apply al | apply an | apply ak | apply ai | apply ag | apply ah) <;> intro hc <;> (try (simp -implicitDefEqProofs (maxSteps := 2000000) (disch := first | omega | (simp only [ac, ae, ab]; first | done | omega)) only [push_cast, seval, fQ, fM, fI, fR, hc])) <;> (try (exfalso; omega))) | refine ap (hcp) ?_ | refine ap (gO hk _ _) ?_ | refine ap (w1) ?_ | (simp -implicitDefEqProofs (maxSteps := 2000000) (disch := first | omega | (simp only [ac, ae, ab]; first | done | omega)) only [push_cast, seval, fQ, fM, fI, fR]))
      exact bH (af.refl _) rfl (az.tup (all_cons (az.c _) (all_cons (az.c _) all_nil)))
    | some u =>
      have hu : u ≤ 9223372036854775807 := by
        unfold nc at hr
        split at hr
        · cases hr
        · exact zj (.inl rfl) (by omega) _ _ _ (Nat.zero_le _) hr
      rw [hr] at w1
      simp only [Z4] at w1
      have wd := Ej hk (u : Int) (by omega) (by omega)
      simp only
      by_cases hd : aX (u : Int) = s
      · rw [if_pos hd]
        have hb : (aX (u : Int) == s) = true := by simpa using hd
        repeat' (first | ((first | apply ao | apply aj | apply am | apply al | apply an | apply ak | apply ai | apply ag | apply ah) <;> intro hc <;> (try (simp -implicitDefEqProofs (maxSteps := 2000000) (disch := first | omega | (simp only [ac, ae, ab]; first | done | omega)) only [push_cast, seval, fQ, fM, fI, fR, hc, hb])) <;> (try (exfalso; omega))) | refine ap (hcp) ?_ | refine ap (gO hk _ _) ?_ | refine ap (w1) ?_ | refine ap (wd) ?_ | (simp -implicitDefEqProofs (maxSteps := 2000000) (disch := first | omega | (simp only [ac, ae, ab]; first | done | omega)) only [push_cast, seval, fQ, fM, fI, fR, hb]))
        exact bH (af.refl _) rfl (az.tup (all_cons (az.c _) (all_cons (az.c _) all_nil)))
      · rw [if_neg hd]
        have hb : (aX (u : Int) == s) = false := by simpa using hd
        repeat' (first | ((first | apply ao | apply aj | apply am | apply al | apply an | apply ak | apply ai | apply ag | apply ah) <;> intro hc <;> (try (simp -implicitDefEqProofs (maxSteps := 2000000) (disch := first | omega | (simp only [ac, ae, ab]; first | done | omega)) only [push_cast, seval, fQ, fM, fI, fR, hc, hb])) <;> (try (exfalso; omega))) | refine ap (hcp) ?_ | refine ap (gO hk _ _) ?_ | refine ap (w1) ?_ | refine ap (wd) ?_ | (simp -implicitDefEqProofs (maxSteps := 2000000) (disch := first | omega | (simp only [ac, ae, ab]; first | done | omega)) only [push_cast, seval, fQ, fM, fI, fR, hb]))
        exact bH (af.refl _) rfl (az.tup (all_cons (az.c _) (all_cons (az.c _) all_nil)))
omit hk in
theorem xA {n : Int} (h1 : -9223372036854775808 ≤ n) (h2 : n < 9223372036854775808) : eU (aX n) = some n := by
  unfold eU
  by_cases h0 : n < 0
  · have e : aX n = 45 :: dT 10 (-n).toNat := by unfold aX; rw [if_pos h0]
    have hne : dT 10 (-n).toNat ≠ [] := fun he => by have := uV 10 (-n).toNat; rw [he] at this; simp at this
    rw [if_pos (by rw [e]; rfl)]
    have hr : nc 10 9223372036854775808 ((aX n).drop 1) = some (-n).toNat := by
      rw [e]
      unfold nc
      rw [List.drop_succ_cons, List.drop_zero, if_neg hne]
      exact vq (.inl rfl) _ _ (Nat.le_refl _) (by omega) (by omega)
    rw [hr]
    simp only
    rw [show -(((-n).toNat : Nat) : Int) = n by omega, if_pos rfl]
  · have e : aX n = dT 10 n.toNat := by unfold aX; rw [if_neg h0]
    obtain ⟨c, l, hc, hc2⟩ := qe n.toNat n.toNat (Nat.le_refl _)
    have hne : aX n ≠ [] := by rw [e, hc]; simp
    rw [if_neg (by rw [e, hc]; simp; exact hc2)]
    have hr : nc 10 9223372036854775807 (aX n) = some n.toNat := by
      unfold nc
      rw [if_neg hne, e]
      exact vq (.inl rfl) _ _ (Nat.le_refl _) (by omega) (by omega)
    rw [hr]
    simp only
    rw [show ((n.toNat : Nat) : Int) = n by omega, if_pos rfl]
omit hk in
theorem wH {s : List UInt8} {n : Int} (h : eU s = some n) : -9223372036854775808 ≤ n ∧ n < 9223372036854775808 ∧ aX n = s := by
  have hle : ∀ most, 16 ≤ most → ∀ l u, nc 10 most l = some u → u ≤ most := fun most hm l u hr => by
    unfold nc at hr
    split at hr
    · cases hr
    · exact zj (.inl rfl) hm _ _ _ (Nat.zero_le _) hr
  unfold eU at h
  split at h
  · split at h
    · rename_i u hr
      have := hle _ (by omega) _ _ hr
      split at h
      · rename_i hd; cases h; exact ⟨by omega, by omega, hd⟩
      · cases h
    · cases h
  · split at h
    · rename_i u hr
      have := hle _ (by omega) _ _ hr
      split at h
      · rename_i hd; cases h; exact ⟨by omega, by omega, hd⟩
      · cases h
    · cases h
end
end Go.Proofs.YticllcglldbffaaDoor.Ab
