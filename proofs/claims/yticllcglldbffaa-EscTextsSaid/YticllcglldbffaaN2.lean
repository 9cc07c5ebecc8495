/- Numbers as texts; values as bytes: the walks. -/
import Derived.Test.YticllcglldbffaaN1
import Derived.Test.YticllcglldbffaaL1
namespace Go.Proofs.Yticllcglldbffaa.Ab
open Go.Proofs
set_option maxRecDepth 100000
set_option maxHeartbeats 4000000
set_option linter.unusedSimpArgs false
set_option linter.unusedVariables false
set_option linter.unnecessarySimpa false
set_option linter.unusedSectionVars false
section
variable {k : Nat → List Value → Option Value} (hk : ∀ f, f ≠ 32 → f ≠ 51 → Open k f)
include hk
theorem digit_ok (n : Nat) (h : n < 16) : PC (XK k) 46 [.c (.int .i64 n)] (tx [dig n]) := by
  refine PC_of fun s => ?_
  refine f46_in (hk _ (by decide) (by decide)) ?_
  (try (simp -implicitDefEqProofs (maxSteps := 2000000) (disch := first | omega | (simp only [vz_push, vz_set, drop_size]; first | done | omega)) only [push_cast, seval, f46N0])) <;> (repeat' ((first | apply ga_dec | apply ga_ndec | apply cd_dec | apply cd_ndec | apply gd_dec | apply gd_ndec | apply ga_split | apply cd_split | apply gd_split) <;> intro hc <;> try (simp -implicitDefEqProofs (maxSteps := 2000000) (disch := first | omega | (simp only [vz_push, vz_set, drop_size]; first | done | omega)) only [push_cast, seval, f46N0, hc])))
  refine out_tx (by (repeat first | assumption | exact KeepA.refl _ | apply KeepA.push | refine KeepA.set ?_ (by first | omega | (simp only [vz_push, vz_set, drop_size]; omega) | (have h9 := KeepA.size_le (by assumption); (try simp only [vz_push, vz_set, drop_size] at *); omega)) _ | refine KeepA.drop ?_ (by first | omega | (simp only [vz_push, vz_set, drop_size]; omega) | (have h9 := KeepA.size_le (by assumption); (try simp only [vz_push, vz_set, drop_size] at *); omega)) | refine KeepA.trans ?_ (by assumption))) ?_
  have key : ∀ m : Fin 16, List.drop m.1 (48 :: List.take m.1 [49, 50, 51, 52, 53, 54, 55, 56, 57, 65, 66, 67, 68, 69, 70]) = [dig m.1] := by decide
  exact key ⟨n, h⟩
theorem teller_ok (b : Int) : PC (XK k) 31 [.c (.int .u64 b)] (.fn 42 [] [.fptr [.c (.int .u64 b)] 0]) := by
  refine PC_of fun s => ?_
  refine f31_in (hk _ (by decide) (by decide)) ?_
  (try (simp -implicitDefEqProofs (maxSteps := 2000000) (disch := first | omega | (simp only [vz_push, vz_set, drop_size]; first | done | omega)) only [push_cast, seval, f31N0])) <;> (repeat' ((first | apply ga_dec | apply ga_ndec | apply cd_dec | apply cd_ndec | apply gd_dec | apply gd_ndec | apply ga_split | apply cd_split | apply gd_split) <;> intro hc <;> try (simp -implicitDefEqProofs (maxSteps := 2000000) (disch := first | omega | (simp only [vz_push, vz_set, drop_size]; first | done | omega)) only [push_cast, seval, f31N0, hc])))
  refine ⟨by (repeat first | assumption | exact KeepA.refl _ | apply KeepA.push | refine KeepA.set ?_ (by first | omega | (simp only [vz_push, vz_set, drop_size]; omega) | (have h9 := KeepA.size_le (by assumption); (try simp only [vz_push, vz_set, drop_size] at *); omega)) _ | refine KeepA.drop ?_ (by first | omega | (simp only [vz_push, vz_set, drop_size]; omega) | (have h9 := KeepA.size_le (by assumption); (try simp only [vz_push, vz_set, drop_size] at *); omega)) | refine KeepA.trans ?_ (by assumption)), Se.fn Ses.nil (Ses.cons (Se.box (b := s.size) (e := 67) (by (simp -implicitDefEqProofs (disch := first | omega | (simp only [vz_push, vz_set, drop_size]; first | done | omega)) only [drop_ne, gp_ne, gp_eq, gs_ne, gs_eq])) (by omega) (Se.c _)) Ses.nil)⟩
theorem teller1_ok (b n : Nat) (hb : b = 10 ∨ b = 16) (hn : n < 18446744073709551616) : PC (XK k) 42 [.c (.int .u64 n), .fptr [.c (.int .u64 b)] 0] (tx (digs b n)) := by
  refine PC_of fun s => ?_
  refine f42_in (hk _ (by decide) (by decide)) ?_
  (try (simp -implicitDefEqProofs (maxSteps := 2000000) (disch := first | omega | (simp only [vz_push, vz_set, drop_size]; first | done | omega)) only [push_cast, seval, f42N0, f42N1])) <;> (repeat' ((first | apply ga_dec | apply ga_ndec | apply cd_dec | apply cd_ndec | apply gd_dec | apply gd_ndec | apply ga_split | apply cd_split | apply gd_split) <;> intro hc <;> try (simp -implicitDefEqProofs (maxSteps := 2000000) (disch := first | omega | (simp only [vz_push, vz_set, drop_size]; first | done | omega)) only [push_cast, seval, f42N0, f42N1, hc])))
  refine VW_iter (fun m ρ s' => ∃ (j u : Nat) (w : List UInt8), m = 64 - j ∧ w.length = j ∧ digs b n = digs b u ++ w ∧ (digs b u).length + j ≤ 64 ∧ u < 18446744073709551616 ∧ ρ.get 0 = .c (.int .u64 u) ∧ ρ.get 1 = .fptr [.c (.int .u64 b)] 0 ∧ ρ.get 4 = .ptr ⟨s.size, 0, none⟩ ∧ ρ.get 5 = .c (.int .i64 ((64 : Int) - j)) ∧
    s'.get s.size = some (.own ⟨List.replicate (64 - j) (.c (.int .u8 0)) ++ w.map cB, 74, 0, 0, false⟩) ∧ KeepA s s') 64
    ⟨0, n, [], rfl, rfl, by rw [List.append_nil], by simpa using digs_len b (by omega) 63 n (by omega), hn, by (((try simp -implicitDefEqProofs only [eA_tmp, eA_const, AEnv.get_set, ofA_get, List.getD_cons_zero, List.getD_cons_succ, ↓reduceIte, reduceCtorEq, Nat.reduceEqDiff]); try (first | (with_reducible assumption) | (with_reducible rfl) | (congr 2 <;> omega) | rfl))), by (((try simp -implicitDefEqProofs only [eA_tmp, eA_const, AEnv.get_set, ofA_get, List.getD_cons_zero, List.getD_cons_succ, ↓reduceIte, reduceCtorEq, Nat.reduceEqDiff]); try (first | (with_reducible assumption) | (with_reducible rfl) | (congr 2 <;> omega) | rfl))), by (((try simp -implicitDefEqProofs only [eA_tmp, eA_const, AEnv.get_set, ofA_get, List.getD_cons_zero, List.getD_cons_succ, ↓reduceIte, reduceCtorEq, Nat.reduceEqDiff]); try (first | (with_reducible assumption) | (with_reducible rfl) | (congr 2 <;> omega) | rfl))), by (((try simp -implicitDefEqProofs only [eA_tmp, eA_const, AEnv.get_set, ofA_get, List.getD_cons_zero, List.getD_cons_succ, ↓reduceIte, reduceCtorEq, Nat.reduceEqDiff]); try (first | (with_reducible assumption) | (with_reducible rfl) | (congr 2 <;> omega) | rfl))), gp_eq rfl, by (repeat first | assumption | exact KeepA.refl _ | apply KeepA.push | refine KeepA.set ?_ (by first | omega | (simp only [vz_push, vz_set, drop_size]; omega) | (have h9 := KeepA.size_le (by assumption); (try simp only [vz_push, vz_set, drop_size] at *); omega)) _ | refine KeepA.drop ?_ (by first | omega | (simp only [vz_push, vz_set, drop_size]; omega) | (have h9 := KeepA.size_le (by assumption); (try simp only [vz_push, vz_set, drop_size] at *); omega)) | refine KeepA.trans ?_ (by assumption))⟩ ?_
  rintro m ρ s' ⟨j, u, w, rfl, hw, hd, hl, hu, g0, g1, g4, g5, j1, hk1⟩
  have hp := digs_pos b u
  have hsz := VS.lt_of_get j1
  have hrep : (List.replicate (64 - j) (AV.c (.int .u8 0)) ++ w.map cB).length = 64 := by simp; omega
  have hst := digs_step b u (by omega)
  have hidx : ([48, 49, 50, 51, 52, 53, 54, 55, 56, 57, 65, 66, 67, 68, 69, 70] : List UInt8)[u % b]? = some (dig (u % b)) := by
    have key : ∀ m : Fin 16, ([48, 49, 50, 51, 52, 53, 54, 55, 56, 57, 65, 66, 67, 68, 69, 70] : List UInt8)[m.1]? = some (dig m.1) := by decide
    exact key ⟨u % b, by rcases hb with rfl | rfl <;> omega⟩
  obtain ⟨W, hW⟩ : ∃ W, W = dig (u % b) :: w := ⟨_, rfl⟩
  have hWl : W.length = j + 1 := by rw [hW, List.length_cons, hw]
  have hov : List.take (64 - j - 1) (List.replicate (64 - j) (AV.c (.int .u8 0)) ++ w.map cB) ++ [AV.c (.int .u8 ((dig (u % b)).toNat : Int))] ++ List.drop (64 - j - 1 + 1) (List.replicate (64 - j) (AV.c (.int .u8 0)) ++ w.map cB) = List.replicate (64 - j - 1) (AV.c (.int .u8 0)) ++ W.map cB := by
    rw [List.take_append_of_le_length (by rw [List.length_replicate]; omega), List.take_replicate, Nat.min_eq_left (by omega), List.drop_append, List.drop_eq_nil_of_le (by simp; omega), hW]
    simp only [List.length_replicate, List.nil_append, List.append_assoc, List.map_cons, cB]
    rw [show 64 - j - 1 + 1 - (64 - j) = 0 by omega]
    rfl
  have hlen2 : (List.replicate (64 - j - 1) (AV.c (.int .u8 0)) ++ W.map cB).length = 64 := by simp; omega
  have hcut : List.take (64 - (64 - j - 1)) (List.drop (64 - j - 1) (List.replicate (64 - j - 1) (AV.c (.int .u8 0)) ++ W.map cB)) = W.map cB := by
    rw [List.drop_left' (by simp), List.take_of_length_le (by simp; omega)]
  have hst2 : digs b n = (if u / b = 0 then [] else digs b (u / b)) ++ W := by rw [hd, hst, hW]; simp
  have hlt : (64 : Int) - j - 1 = ((64 - j - 1 : Nat) : Int) := by omega
  rcases hb with rfl | rfl
  all_goals
    (try (simp -implicitDefEqProofs (maxSteps := 2000000) (disch := first | omega | (simp only [vz_push, vz_set, drop_size]; first | done | omega)) only [push_cast, seval, f42N0, f42N1, g0, g1, g4, g5, j1, hrep, hidx, hov, hlen2, hcut, hWl])) <;> (repeat' ((first | apply ga_dec | apply ga_ndec | apply cd_dec | apply cd_ndec | apply gd_dec | apply gd_ndec | apply ga_split | apply cd_split | apply gd_split) <;> intro hc <;> try (simp -implicitDefEqProofs (maxSteps := 2000000) (disch := first | omega | (simp only [vz_push, vz_set, drop_size]; first | done | omega)) only [push_cast, seval, f42N0, f42N1, hc, g0, g1, g4, g5, j1, hrep, hidx, hov, hlen2, hcut, hWl])))
    · rw [if_pos (by omega), List.nil_append] at hst2
      exact out_tx (by (repeat first | assumption | exact KeepA.refl _ | apply KeepA.push | refine KeepA.set ?_ (by first | omega | (simp only [vz_push, vz_set, drop_size]; omega) | (have h9 := KeepA.size_le (by assumption); (try simp only [vz_push, vz_set, drop_size] at *); omega)) _ | refine KeepA.drop ?_ (by first | omega | (simp only [vz_push, vz_set, drop_size]; omega) | (have h9 := KeepA.size_le (by assumption); (try simp only [vz_push, vz_set, drop_size] at *); omega)) | refine KeepA.trans ?_ (by assumption))) hst2.symm
    · rw [if_neg (by omega)] at hst2
      have hll := congrArg List.length hst2
      rw [hd, hst, if_neg (by omega), hW] at hll
      simp only [List.length_append, List.length_cons, List.length_nil] at hll
      rw [hst, if_neg (by omega)] at hl
      simp only [List.length_append, List.length_cons, List.length_nil] at hl
      refine ⟨_ - (j + 1), by omega, j + 1, u / _, W, rfl, hWl, hst2, by omega, by omega, rfl, by congr 2; omega, ?_, by (repeat first | assumption | exact KeepA.refl _ | apply KeepA.push | refine KeepA.set ?_ (by first | omega | (simp only [vz_push, vz_set, drop_size]; omega) | (have h9 := KeepA.size_le (by assumption); (try simp only [vz_push, vz_set, drop_size] at *); omega)) _ | refine KeepA.drop ?_ (by first | omega | (simp only [vz_push, vz_set, drop_size]; omega) | (have h9 := KeepA.size_le (by assumption); (try simp only [vz_push, vz_set, drop_size] at *); omega)) | refine KeepA.trans ?_ (by assumption))⟩
      rw [show 64 - (j + 1) = 64 - j - 1 by omega]
theorem rhex_ok : ∀ (m n : Nat) (a : Int), n + a.toNat ≤ m → n < 9223372036854775808 → (n : Int) ≤ a + 9223372036854775806 → a < 1000 → PC (XK k) 33 [.c (.int .i64 n), .c (.int .i64 a)] (tx (hexR n a.toNat)) := by
  intro m
  induction m with
  | zero =>
    intro n a hm hn ha hb
    refine PC_of fun s => ?_
    refine f33_in (hk _ (by decide) (by decide)) ?_
    obtain rfl : n = 0 := by omega
    repeat' (first | ((first | apply ga_dec | apply ga_ndec | apply cd_dec | apply cd_ndec | apply gd_dec | apply gd_ndec | apply ga_split | apply cd_split | apply gd_split) <;> intro hc <;> (try (simp -implicitDefEqProofs (maxSteps := 2000000) (disch := first | omega | (simp only [vz_push, vz_set, drop_size]; first | done | omega)) only [push_cast, seval, f33N0, f33N1, hc])) <;> (try (exfalso; omega))) | refine VC_pure (digit_ok hk 0 (by omega)) ?_ | (simp -implicitDefEqProofs (maxSteps := 2000000) (disch := first | omega | (simp only [vz_push, vz_set, drop_size]; first | done | omega)) only [push_cast, seval, f33N0, f33N1]))
    exact out_tx (by (repeat first | assumption | exact KeepA.refl _ | apply KeepA.push | refine KeepA.set ?_ (by first | omega | (simp only [vz_push, vz_set, drop_size]; omega) | (have h9 := KeepA.size_le (by assumption); (try simp only [vz_push, vz_set, drop_size] at *); omega)) _ | refine KeepA.drop ?_ (by first | omega | (simp only [vz_push, vz_set, drop_size]; omega) | (have h9 := KeepA.size_le (by assumption); (try simp only [vz_push, vz_set, drop_size] at *); omega)) | refine KeepA.trans ?_ (by assumption))) (by rw [hexR, dif_pos (by omega)])
  | succ m ih =>
    intro n a hm hn ha hb
    refine PC_of fun s => ?_
    refine f33_in (hk _ (by decide) (by decide)) ?_
    by_cases hc1 : n < 16 ∧ a ≤ 1
    · repeat' (first | ((first | apply ga_dec | apply ga_ndec | apply cd_dec | apply cd_ndec | apply gd_dec | apply gd_ndec | apply ga_split | apply cd_split | apply gd_split) <;> intro hc <;> (try (simp -implicitDefEqProofs (maxSteps := 2000000) (disch := first | omega | (simp only [vz_push, vz_set, drop_size]; first | done | omega)) only [push_cast, seval, f33N0, f33N1, hc])) <;> (try (exfalso; omega))) | refine VC_pure (digit_ok hk n (by omega)) ?_ | (simp -implicitDefEqProofs (maxSteps := 2000000) (disch := first | omega | (simp only [vz_push, vz_set, drop_size]; first | done | omega)) only [push_cast, seval, f33N0, f33N1]))
      exact out_tx (by (repeat first | assumption | exact KeepA.refl _ | apply KeepA.push | refine KeepA.set ?_ (by first | omega | (simp only [vz_push, vz_set, drop_size]; omega) | (have h9 := KeepA.size_le (by assumption); (try simp only [vz_push, vz_set, drop_size] at *); omega)) _ | refine KeepA.drop ?_ (by first | omega | (simp only [vz_push, vz_set, drop_size]; omega) | (have h9 := KeepA.size_le (by assumption); (try simp only [vz_push, vz_set, drop_size] at *); omega)) | refine KeepA.trans ?_ (by assumption))) (by rw [hexR, dif_pos (by omega)])
    · have hl := hexR_len (n := n / 16) (a.toNat - 1) (by omega)
      have hR : hexR n a.toNat = hexR (n / 16) (a.toNat - 1) ++ [dig (n % 16)] := by
        conv => lhs; rw [hexR]
        rw [dif_neg (by omega)]
      have e16 : (n : Int) / 16 = ((n / 16 : Nat) : Int) := by omega
      have m16 : (n : Int) % 16 = ((n % 16 : Nat) : Int) := by omega
      repeat' (first | ((first | apply ga_dec | apply ga_ndec | apply cd_dec | apply cd_ndec | apply gd_dec | apply gd_ndec | apply ga_split | apply cd_split | apply gd_split) <;> intro hc <;> (try (simp -implicitDefEqProofs (maxSteps := 2000000) (disch := first | omega | (simp only [vz_push, vz_set, drop_size]; first | done | omega)) only [push_cast, seval, f33N0, f33N1, hc, hl])) <;> (try (exfalso; omega))) | refine VC_pure (e16 ▸ ih (n / 16) (a - 1) (by omega) (by omega) (by omega) (by omega)) ?_ | refine VC_pure (m16 ▸ digit_ok hk (n % 16) (by omega)) ?_ | refine VC_pure (digit_ok hk n (by omega)) ?_ | (simp -implicitDefEqProofs (maxSteps := 2000000) (disch := first | omega | (simp only [vz_push, vz_set, drop_size]; first | done | omega)) only [push_cast, seval, f33N0, f33N1, hl]))
      all_goals exact out_tx (by (repeat first | assumption | exact KeepA.refl _ | apply KeepA.push | refine KeepA.set ?_ (by first | omega | (simp only [vz_push, vz_set, drop_size]; omega) | (have h9 := KeepA.size_le (by assumption); (try simp only [vz_push, vz_set, drop_size] at *); omega)) _ | refine KeepA.drop ?_ (by first | omega | (simp only [vz_push, vz_set, drop_size]; omega) | (have h9 := KeepA.size_le (by assumption); (try simp only [vz_push, vz_set, drop_size] at *); omega)) | refine KeepA.trans ?_ (by assumption))) (by rw [hR]; (try rw [Nat.mod_eq_of_lt (by omega : n < 16)]))
/-- At least so many hex digits, for any number. -/
def hexI (n a : Int) : List UInt8 := if n < 0 then [] else hexP n.toNat (min (max a 1) 16).toNat
theorem hex_ok (hrep : ∀ d : Nat, d ≤ 16 → PC (XK k) 32 [tx [48], .c (.int .i64 d)] (tx (List.replicate d 48))) (n a : Int) (hn : n < 9223372036854775808) : PC (XK k) 23 [.c (.int .i64 n), .c (.int .i64 a)] (tx (hexI n a)) := by
  refine PC_of fun s => ?_
  refine f23_in (hk _ (by decide) (by decide)) ?_
  by_cases h0 : n < 0
  · repeat' (first | ((first | apply ga_dec | apply ga_ndec | apply cd_dec | apply cd_ndec | apply gd_dec | apply gd_ndec | apply ga_split | apply cd_split | apply gd_split) <;> intro hc <;> (try (simp -implicitDefEqProofs (maxSteps := 2000000) (disch := first | omega | (simp only [vz_push, vz_set, drop_size]; first | done | omega)) only [push_cast, seval, f23N0, f23N1, hc])) <;> (try (exfalso; omega))) | (simp -implicitDefEqProofs (maxSteps := 2000000) (disch := first | omega | (simp only [vz_push, vz_set, drop_size]; first | done | omega)) only [push_cast, seval, f23N0, f23N1]))
    exact out_tx (by (repeat first | assumption | exact KeepA.refl _ | apply KeepA.push | refine KeepA.set ?_ (by first | omega | (simp only [vz_push, vz_set, drop_size]; omega) | (have h9 := KeepA.size_le (by assumption); (try simp only [vz_push, vz_set, drop_size] at *); omega)) _ | refine KeepA.drop ?_ (by first | omega | (simp only [vz_push, vz_set, drop_size]; omega) | (have h9 := KeepA.size_le (by assumption); (try simp only [vz_push, vz_set, drop_size] at *); omega)) | refine KeepA.trans ?_ (by assumption))) (by unfold hexI; rw [if_pos h0])
  · obtain ⟨m, rfl⟩ := Int.eq_ofNat_of_zero_le (by omega : 0 ≤ n)
    obtain ⟨b, hb⟩ : ∃ b : Nat, min (max a 1) 16 = (b : Int) := ⟨(min (max a 1) 16).toNat, by omega⟩
    have hb16 : 1 ≤ b ∧ b ≤ 16 := by omega
    have hcl : (if (16 : Int) < (if a < 1 then 1 else a) then 16 else (if a < 1 then 1 else a)) = (b : Int) := by omega
    have hdl := digs_len 16 (by omega) 63 m (by omega)
    have hI : hexI m a = hexP m b := by unfold hexI; rw [if_neg h0, hb]; rfl
    rw [hI]
    repeat' (first | ((first | apply ga_dec | apply ga_ndec | apply cd_dec | apply cd_ndec | apply gd_dec | apply gd_ndec | apply ga_split | apply cd_split | apply gd_split) <;> intro hc <;> (try (simp -implicitDefEqProofs (maxSteps := 2000000) (disch := first | omega | (simp only [vz_push, vz_set, drop_size]; first | done | omega)) only [push_cast, seval, f23N0, f23N1, hc, hcl, hdl])) <;> (try (exfalso; omega))) | refine VC_pure (teller_ok hk _) ?_ | refine VC_pure (teller1_ok hk 16 m (.inr rfl) (by omega)) ?_ | (simp -implicitDefEqProofs (maxSteps := 2000000) (disch := first | omega | (simp only [vz_push, vz_set, drop_size]; first | done | omega)) only [push_cast, seval, f23N0, f23N1, hcl, hdl]))
    · have e1 : (b : Int) - ((digs 16 m).length : Int) = ((b - (digs 16 m).length : Nat) : Int) := by omega
      rw [e1]
      refine VC_pure (hrep (b - (digs 16 m).length) (by omega)) ?_
      (try (simp -implicitDefEqProofs (maxSteps := 2000000) (disch := first | omega | (simp only [vz_push, vz_set, drop_size]; first | done | omega)) only [push_cast, seval, f23N0, f23N1, hdl, List.length_replicate])) <;> (repeat' ((first | apply ga_dec | apply ga_ndec | apply cd_dec | apply cd_ndec | apply gd_dec | apply gd_ndec | apply ga_split | apply cd_split | apply gd_split) <;> intro hc <;> try (simp -implicitDefEqProofs (maxSteps := 2000000) (disch := first | omega | (simp only [vz_push, vz_set, drop_size]; first | done | omega)) only [push_cast, seval, f23N0, f23N1, hc, hdl, List.length_replicate])))
      exact out_tx (by (repeat first | assumption | exact KeepA.refl _ | apply KeepA.push | refine KeepA.set ?_ (by first | omega | (simp only [vz_push, vz_set, drop_size]; omega) | (have h9 := KeepA.size_le (by assumption); (try simp only [vz_push, vz_set, drop_size] at *); omega)) _ | refine KeepA.drop ?_ (by first | omega | (simp only [vz_push, vz_set, drop_size]; omega) | (have h9 := KeepA.size_le (by assumption); (try simp only [vz_push, vz_set, drop_size] at *); omega)) | refine KeepA.trans ?_ (by assumption))) rfl
    · refine out_tx (by (repeat first | assumption | exact KeepA.refl _ | apply KeepA.push | refine KeepA.set ?_ (by first | omega | (simp only [vz_push, vz_set, drop_size]; omega) | (have h9 := KeepA.size_le (by assumption); (try simp only [vz_push, vz_set, drop_size] at *); omega)) _ | refine KeepA.drop ?_ (by first | omega | (simp only [vz_push, vz_set, drop_size]; omega) | (have h9 := KeepA.size_le (by assumption); (try simp only [vz_push, vz_set, drop_size] at *); omega)) | refine KeepA.trans ?_ (by assumption))) ?_
      unfold hexP
      rw [show b - (digs 16 m).length = 0 by omega]
      rfl
theorem right_ok' (v : Int) : PC (XK k) 37 [.c (.int .i64 v)] (.c (.bool (right v))) := right_ok hk v
omit hk in
/-- What a value that may be is as bytes; else none. -/
def encR (v : Int) : List UInt8 := if right v then encV v else []
omit hk in
theorem right_rng {v : Int} (h : right v = true) : 0 ≤ v ∧ v ≤ 1114367 ∧ (v ≤ 1114111 → v < 55296 ∨ 57343 < v) ∧ (¬ v ≤ 1114111 → 1114240 ≤ v) := by
  unfold right at h
  simp only [Bool.or_eq_true, Bool.and_eq_true, decide_eq_true_eq, Bool.not_eq_true', Bool.and_eq_false_iff, decide_eq_false_iff_not] at h
  omega
omit hk in
theorem encV_len4 (v : Int) : (encV v).length ≤ 4 := by
  unfold encV
  (repeat' split) <;> simp
omit hk in
theorem encR_len4 (v : Int) : (encR v).length ≤ 4 := by
  unfold encR
  split
  · exact encV_len4 v
  · simp
omit hk in
theorem cell_eq {x : Int} {n : Nat} (h : x = n) (h2 : n < 256) : AV.c (.int .u8 x) = cB (UInt8.ofNat n) := by
  unfold cB
  rw [byte_of h2, h]
omit hk in
theorem LI1 (x : Int) : LI [x] = .lst 1 [[.c (.int .i64 x)]] := rfl
omit hk in
/-- A row of one whole number, handed over. -/
theorem VC_one {X : Prg} {s : VS} {f b e : Nat} {x : Int} {r : AV} {K : AV → VS → Prop} (hg : s.get b = some (.own ⟨[.c (.int .i64 x)], e, 0, 0, false⟩)) (h : PC X f [LI [x]] r) (hr : Rigid r) (hK : K r s) : VC X f [.sl ⟨b, 0, none⟩ 1 (capX 1)] s K := by
  refine VC_lent h (Ses.cons (Se.sl (sz := 1) (xs := [[.c (.int .i64 x)]]) hg trivial rfl (by simp) (by rw [capX_half]; omega) rfl (fun y hy => by simp at hy; subst hy; rfl) ?_) Ses.nil) hr hK
  exact Ses.firm (FirmR.cons (Firm.c _) FirmR.nil)
end
end Go.Proofs.Yticllcglldbffaa.Ab
