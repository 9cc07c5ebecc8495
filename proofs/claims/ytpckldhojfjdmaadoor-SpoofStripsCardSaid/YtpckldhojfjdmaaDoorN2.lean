/- Numbers as texts; values as bytes: the walks. -/
import Derived.Test.YtpckldhojfjdmaaDoorN1
import Derived.Test.YtpckldhojfjdmaaDoorL1
namespace Go.Proofs.YtpckldhojfjdmaaDoor.Ab
open Go.Proofs
set_option maxRecDepth 100000
set_option maxHeartbeats 4000000
set_option linter.unusedSimpArgs false
set_option linter.unusedVariables false
set_option linter.unnecessarySimpa false
set_option linter.unusedSectionVars false
section
variable {k : Nat → List Value → Option Value} (hk : ∀ f, f ≠ 95 → Open k f)
include hk
theorem digit_ok (n : Nat) (h : n < 16) : PC (XK k) 105 [.c (.int .i64 n)] (tx [dig n]) := by
  refine PC_of fun s => ?_
  refine f105_in (hk _ (by decide)) ?_
  (try (simp -implicitDefEqProofs (maxSteps := 2000000) (disch := first | omega | (simp only [vz_push, vz_set, drop_size]; first | done | omega)) only [push_cast, seval, f105N0])) <;> (repeat' ((first | apply ga_dec | apply ga_ndec | apply cd_dec | apply cd_ndec | apply gd_dec | apply gd_ndec | apply ga_split | apply cd_split | apply gd_split) <;> intro hc <;> try (simp -implicitDefEqProofs (maxSteps := 2000000) (disch := first | omega | (simp only [vz_push, vz_set, drop_size]; first | done | omega)) only [push_cast, seval, f105N0, hc])))
  refine out_tx (by (repeat first | assumption | exact KeepA.refl _ | apply KeepA.push | refine KeepA.set ?_ (by first | omega | (simp only [vz_push, vz_set, drop_size]; omega) | (have h9 := KeepA.size_le (by assumption); (try simp only [vz_push, vz_set, drop_size] at *); omega)) _ | refine KeepA.drop ?_ (by first | omega | (simp only [vz_push, vz_set, drop_size]; omega) | (have h9 := KeepA.size_le (by assumption); (try simp only [vz_push, vz_set, drop_size] at *); omega)) | refine KeepA.trans ?_ (by assumption))) ?_
  have key : ∀ m : Fin 16, List.drop m.1 (48 :: List.take m.1 [49, 50, 51, 52, 53, 54, 55, 56, 57, 65, 66, 67, 68, 69, 70]) = [dig m.1] := by decide
  exact key ⟨n, h⟩
theorem rbytes_ok (v : Int) (h0 : 0 ≤ v) (h1 : v ≤ 1114367) : PC (XK k) 75 [.c (.int .i64 v)] (tx (encV v)) := by
  refine PC_of fun s => ?_
  refine f75_in (hk _ (by decide)) ?_
  (try (simp -implicitDefEqProofs (maxSteps := 2000000) (disch := first | omega | (simp only [vz_push, vz_set, drop_size]; first | done | omega)) only [push_cast, seval, f75N0, f75N1, f75N2, f75N3])) <;> (repeat' ((first | apply ga_dec | apply ga_ndec | apply cd_dec | apply cd_ndec | apply gd_dec | apply gd_ndec | apply ga_split | apply cd_split | apply gd_split) <;> intro hc <;> try (simp -implicitDefEqProofs (maxSteps := 2000000) (disch := first | omega | (simp only [vz_push, vz_set, drop_size]; first | done | omega)) only [push_cast, seval, f75N0, f75N1, f75N2, f75N3, hc])))
  all_goals refine out_tx (by (repeat first | assumption | exact KeepA.refl _ | apply KeepA.push | refine KeepA.set ?_ (by first | omega | (simp only [vz_push, vz_set, drop_size]; omega) | (have h9 := KeepA.size_le (by assumption); (try simp only [vz_push, vz_set, drop_size] at *); omega)) _ | refine KeepA.drop ?_ (by first | omega | (simp only [vz_push, vz_set, drop_size]; omega) | (have h9 := KeepA.size_le (by assumption); (try simp only [vz_push, vz_set, drop_size] at *); omega)) | refine KeepA.trans ?_ (by assumption))) ?_
  all_goals unfold encV
  all_goals simp only [*, if_true, if_false]
theorem teller_ok (b : Int) : PC (XK k) 94 [.c (.int .u64 b)] (.fn 109 [] [.fptr [.c (.int .u64 b)] 0]) := by
  refine PC_of fun s => ?_
  refine f94_in (hk _ (by decide)) ?_
  (try (simp -implicitDefEqProofs (maxSteps := 2000000) (disch := first | omega | (simp only [vz_push, vz_set, drop_size]; first | done | omega)) only [push_cast, seval, f94N0])) <;> (repeat' ((first | apply ga_dec | apply ga_ndec | apply cd_dec | apply cd_ndec | apply gd_dec | apply gd_ndec | apply ga_split | apply cd_split | apply gd_split) <;> intro hc <;> try (simp -implicitDefEqProofs (maxSteps := 2000000) (disch := first | omega | (simp only [vz_push, vz_set, drop_size]; first | done | omega)) only [push_cast, seval, f94N0, hc])))
  refine ⟨by (repeat first | assumption | exact KeepA.refl _ | apply KeepA.push | refine KeepA.set ?_ (by first | omega | (simp only [vz_push, vz_set, drop_size]; omega) | (have h9 := KeepA.size_le (by assumption); (try simp only [vz_push, vz_set, drop_size] at *); omega)) _ | refine KeepA.drop ?_ (by first | omega | (simp only [vz_push, vz_set, drop_size]; omega) | (have h9 := KeepA.size_le (by assumption); (try simp only [vz_push, vz_set, drop_size] at *); omega)) | refine KeepA.trans ?_ (by assumption)), Se.fn Ses.nil (Ses.cons (Se.box (b := s.size) (e := 94) (by (simp -implicitDefEqProofs (disch := first | omega | (simp only [vz_push, vz_set, drop_size]; first | done | omega)) only [drop_ne, gp_ne, gp_eq, gs_ne, gs_eq])) (by omega) (Se.c _)) Ses.nil)⟩
theorem teller1_ok (b n : Nat) (hb : b = 10 ∨ b = 16) (hn : n < 18446744073709551616) : PC (XK k) 109 [.c (.int .u64 n), .fptr [.c (.int .u64 b)] 0] (tx (digs b n)) := by
  refine PC_of fun s => ?_
  refine f109_in (hk _ (by decide)) ?_
  (try (simp -implicitDefEqProofs (maxSteps := 2000000) (disch := first | omega | (simp only [vz_push, vz_set, drop_size]; first | done | omega)) only [push_cast, seval, f109N0, f109N1])) <;> (repeat' ((first | apply ga_dec | apply ga_ndec | apply cd_dec | apply cd_ndec | apply gd_dec | apply gd_ndec | apply ga_split | apply cd_split | apply gd_split) <;> intro hc <;> try (simp -implicitDefEqProofs (maxSteps := 2000000) (disch := first | omega | (simp only [vz_push, vz_set, drop_size]; first | done | omega)) only [push_cast, seval, f109N0, f109N1, hc])))
  refine VW_iter (fun m ρ s' => ∃ (j u : Nat) (w : List UInt8), m = 64 - j ∧ w.length = j ∧ digs b n = digs b u ++ w ∧ (digs b u).length + j ≤ 64 ∧ u < 18446744073709551616 ∧ ρ.get 0 = .c (.int .u64 u) ∧ ρ.get 1 = .fptr [.c (.int .u64 b)] 0 ∧ ρ.get 4 = .ptr ⟨s.size, 0, none⟩ ∧ ρ.get 5 = .c (.int .i64 ((64 : Int) - j)) ∧
    s'.get s.size = some (.own ⟨List.replicate (64 - j) (.c (.int .u8 0)) ++ w.map cB, 110, 0, 0, false⟩) ∧ KeepA s s') 64
    ⟨0, n, [], rfl, rfl, by rw [List.append_nil], by simpa using digs_len b (by omega) 63 n (by omega), hn, by (((try simp -implicitDefEqProofs only [eA_tmp, eA_const, AEnv.get_set, ofA_get, List.getD_cons_zero, List.getD_cons_succ, ↓reduceIte, reduceCtorEq, Nat.reduceEqDiff]); try (first | (with_reducible assumption) | (with_reducible rfl) | (congr 2 <;> omega) | rfl))), by (((try simp -implicitDefEqProofs only [eA_tmp, eA_const, AEnv.get_set, ofA_get, List.getD_cons_zero, List.getD_cons_succ, ↓reduceIte, reduceCtorEq, Nat.reduceEqDiff]); try (first | (with_reducible assumption) | (with_reducible rfl) | (congr 2 <;> omega) | rfl))), by (((try simp -implicitDefEqProofs only [eA_tmp, eA_const, AEnv.get_set, ofA_get, List.getD_cons_zero, List.getD_cons_succ, ↓reduceIte, reduceCtorEq, Nat.reduceEqDiff]); try (first | (with_reducible assumption) | (with_reducible rfl) | (congr 2 <;> omega) | rfl))), by (((try simp -implicitDefEqProofs only [eA_tmp, eA_const, AEnv.get_set, ofA_get, List.getD_cons_zero, List.getD_cons_succ, ↓reduceIte, reduceCtorEq, Nat.reduceEqDiff]); try (first | (with_reducible assumption) | (with_reducible rfl) | (congr 2 <;> omega) | rfl))), gp_eq rfl, by (repeat first | assumption | exact KeepA.refl _ | apply KeepA.push | refine KeepA.set ?_ (by first | omega | (simp only [vz_push, vz_set, drop_size]; omega) | (have h9 := KeepA.size_le (by assumption); (try simp only [vz_push, vz_set, drop_size] at *); omega)) _ | refine KeepA.drop ?_ (by first | omega | (simp only [vz_push, vz_set, drop_size]; omega) | (have h9 := KeepA.size_le (by assumption); (try simp only [vz_push, vz_set, drop_size] at *); omega)) | refine KeepA.trans ?_ (by assumption))⟩ ?_
  rintro m ρ s' ⟨j, u, w, rfl, hw, hd, hl, hu, g0, g1, g4, g5, j1, hk1⟩
  have hp := digs_pos b u
  have hsz := VS.lt_of_get j1
  have hrep : (List.replicate (64 - j) (AV.c (.int .u8 0)) ++ w.map cB).length = 64 := by simp; omega
  have hst := digs_step b u (by omega)
  have hidx : ([48, 49, 50, 51, 52, 53, 54, 55, 56, 57, 65, 66, 67, 68, 69, 70] : List UInt8)[u % b]? = some (dig (u % b)) := by
    have key : ∀ m : Fin 16, ([48, 49, 50, 51, 52, 53, 54, 55, 56, 57, 65, 66, 67, 68, 69, 70] : List UInt8)[m.1]? = some (dig m.1) := by decide
    exact key ⟨u % b, by rcases hb with rfl | rfl <;> omega⟩
  obtain ⟨W, hW⟩ : ∃ W, W = dig (u % b) :: w := ⟨_, rfl⟩
  have hWl : W.length = j + 1 := by rw [hW, List.length_cons, hw]
  have hov : List.take (64 - j - 1) (List.replicate (64 - j) (AV.c (.int .u8 0)) ++ w.map cB) ++ [AV.c (.int .u8 ((dig (u % b)).toNat : Int))] ++ List.drop (64 - j - 1 + 1) (List.replicate (64 - j) (AV.c (.int .u8 0)) ++ w.map cB) = List.replicate (64 - j - 1) (AV.c (.int .u8 0)) ++ W.map cB := by
    rw [List.take_append_of_le_length (by rw [List.length_replicate]; omega), List.take_replicate, Nat.min_eq_left (by omega), List.drop_append, List.drop_eq_nil_of_le (by simp; omega), hW]
    simp only [List.length_replicate, List.nil_append, List.append_assoc, List.map_cons, cB]
    rw [show 64 - j - 1 + 1 - (64 - j) = 0 by omega]
    rfl
  have hlen2 : (List.replicate (64 - j - 1) (AV.c (.int .u8 0)) ++ W.map cB).length = 64 := by simp; omega
  have hcut : List.take (64 - (64 - j - 1)) (List.drop (64 - j - 1) (List.replicate (64 - j - 1) (AV.c (.int .u8 0)) ++ W.map cB)) = W.map cB := by
    rw [List.drop_left' (by simp), List.take_of_length_le (by simp; omega)]
  have hst2 : digs b n = (if u / b = 0 then [] else digs b (u / b)) ++ W := by rw [hd, hst, hW]; simp
  have hlt : (64 : Int) - j - 1 = ((64 - j - 1 : Nat) : Int) := by omega
  rcases hb with rfl | rfl
  all_goals
    (try (simp -implicitDefEqProofs (maxSteps := 2000000) (disch := first | omega | (simp only [vz_push, vz_set, drop_size]; first | done | omega)) only [push_cast, seval, f109N0, f109N1, g0, g1, g4, g5, j1, hrep, hidx, hov, hlen2, hcut, hWl])) <;> (repeat' ((first | apply ga_dec | apply ga_ndec | apply cd_dec | apply cd_ndec | apply gd_dec | apply gd_ndec | apply ga_split | apply cd_split | apply gd_split) <;> intro hc <;> try (simp -implicitDefEqProofs (maxSteps := 2000000) (disch := first | omega | (simp only [vz_push, vz_set, drop_size]; first | done | omega)) only [push_cast, seval, f109N0, f109N1, hc, g0, g1, g4, g5, j1, hrep, hidx, hov, hlen2, hcut, hWl])))
    · rw [if_pos (by omega), List.nil_append] at hst2
      exact out_tx (by (repeat first | assumption | exact KeepA.refl _ | apply KeepA.push | refine KeepA.set ?_ (by first | omega | (simp only [vz_push, vz_set, drop_size]; omega) | (have h9 := KeepA.size_le (by assumption); (try simp only [vz_push, vz_set, drop_size] at *); omega)) _ | refine KeepA.drop ?_ (by first | omega | (simp only [vz_push, vz_set, drop_size]; omega) | (have h9 := KeepA.size_le (by assumption); (try simp only [vz_push, vz_set, drop_size] at *); omega)) | refine KeepA.trans ?_ (by assumption))) hst2.symm
    · rw [if_neg (by omega)] at hst2
      have hll := congrArg List.length hst2
      rw [hd, hst, if_neg (by omega), hW] at hll
      simp only [List.length_append, List.length_cons, List.length_nil] at hll
      rw [hst, if_neg (by omega)] at hl
      simp only [List.length_append, List.length_cons, List.length_nil] at hl
      refine ⟨_ - (j + 1), by omega, j + 1, u / _, W, rfl, hWl, hst2, by omega, by omega, rfl, by congr 2; omega, ?_, by (repeat first | assumption | exact KeepA.refl _ | apply KeepA.push | refine KeepA.set ?_ (by first | omega | (simp only [vz_push, vz_set, drop_size]; omega) | (have h9 := KeepA.size_le (by assumption); (try simp only [vz_push, vz_set, drop_size] at *); omega)) _ | refine KeepA.drop ?_ (by first | omega | (simp only [vz_push, vz_set, drop_size]; omega) | (have h9 := KeepA.size_le (by assumption); (try simp only [vz_push, vz_set, drop_size] at *); omega)) | refine KeepA.trans ?_ (by assumption))⟩
      rw [show 64 - (j + 1) = 64 - j - 1 by omega]
theorem rhex_ok : ∀ (m n : Nat) (a : Int), n + a.toNat ≤ m → n < 1152921504606846976 → (n : Int) ≤ a + 2305843009213693952 → a < 1000 → PC (XK k) 80 [.c (.int .i64 n), .c (.int .i64 a)] (tx (hexR n a.toNat)) := by
  intro m
  induction m with
  | zero =>
    intro n a hm hn ha hb
    refine PC_of fun s => ?_
    refine f80_in (hk _ (by decide)) ?_
    obtain rfl : n = 0 := by omega
    repeat' (first | ((first | apply ga_dec | apply ga_ndec | apply cd_dec | apply cd_ndec | apply gd_dec | apply gd_ndec | apply ga_split | apply cd_split | apply gd_split) <;> intro hc <;> (try (simp -implicitDefEqProofs (maxSteps := 2000000) (disch := first | omega | (simp only [vz_push, vz_set, drop_size]; first | done | omega)) only [push_cast, seval, f80N0, f80N1, hc])) <;> (try (exfalso; omega))) | refine VC_pure (digit_ok hk 0 (by omega)) ?_ | (simp -implicitDefEqProofs (maxSteps := 2000000) (disch := first | omega | (simp only [vz_push, vz_set, drop_size]; first | done | omega)) only [push_cast, seval, f80N0, f80N1]))
    exact out_tx (by (repeat first | assumption | exact KeepA.refl _ | apply KeepA.push | refine KeepA.set ?_ (by first | omega | (simp only [vz_push, vz_set, drop_size]; omega) | (have h9 := KeepA.size_le (by assumption); (try simp only [vz_push, vz_set, drop_size] at *); omega)) _ | refine KeepA.drop ?_ (by first | omega | (simp only [vz_push, vz_set, drop_size]; omega) | (have h9 := KeepA.size_le (by assumption); (try simp only [vz_push, vz_set, drop_size] at *); omega)) | refine KeepA.trans ?_ (by assumption))) (by rw [hexR, dif_pos (by omega)])
  | succ m ih =>
    intro n a hm hn ha hb
    refine PC_of fun s => ?_
    refine f80_in (hk _ (by decide)) ?_
    by_cases hc1 : n < 16 ∧ a ≤ 1
    · repeat' (first | ((first | apply ga_dec | apply ga_ndec | apply cd_dec | apply cd_ndec | apply gd_dec | apply gd_ndec | apply ga_split | apply cd_split | apply gd_split) <;> intro hc <;> (try (simp -implicitDefEqProofs (maxSteps := 2000000) (disch := first | omega | (simp only [vz_push, vz_set, drop_size]; first | done | omega)) only [push_cast, seval, f80N0, f80N1, hc])) <;> (try (exfalso; omega))) | refine VC_pure (digit_ok hk n (by omega)) ?_ | (simp -implicitDefEqProofs (maxSteps := 2000000) (disch := first | omega | (simp only [vz_push, vz_set, drop_size]; first | done | omega)) only [push_cast, seval, f80N0, f80N1]))
      exact out_tx (by (repeat first | assumption | exact KeepA.refl _ | apply KeepA.push | refine KeepA.set ?_ (by first | omega | (simp only [vz_push, vz_set, drop_size]; omega) | (have h9 := KeepA.size_le (by assumption); (try simp only [vz_push, vz_set, drop_size] at *); omega)) _ | refine KeepA.drop ?_ (by first | omega | (simp only [vz_push, vz_set, drop_size]; omega) | (have h9 := KeepA.size_le (by assumption); (try simp only [vz_push, vz_set, drop_size] at *); omega)) | refine KeepA.trans ?_ (by assumption))) (by rw [hexR, dif_pos (by omega)])
    · have hl := hexR_len (n := n / 16) (a.toNat - 1) (by omega)
      have hR : hexR n a.toNat = hexR (n / 16) (a.toNat - 1) ++ [dig (n % 16)] := by
        conv => lhs; rw [hexR]
        rw [dif_neg (by omega)]
      have e16 : (n : Int) / 16 = ((n / 16 : Nat) : Int) := by omega
      have m16 : (n : Int) % 16 = ((n % 16 : Nat) : Int) := by omega
      repeat' (first | ((first | apply ga_dec | apply ga_ndec | apply cd_dec | apply cd_ndec | apply gd_dec | apply gd_ndec | apply ga_split | apply cd_split | apply gd_split) <;> intro hc <;> (try (simp -implicitDefEqProofs (maxSteps := 2000000) (disch := first | omega | (simp only [vz_push, vz_set, drop_size]; first | done | omega)) only [push_cast, seval, f80N0, f80N1, hc, hl])) <;> (try (exfalso; omega))) | refine VC_pure (e16 ▸ ih (n / 16) (a - 1) (by omega) (by omega) (by omega) (by omega)) ?_ | refine VC_pure (m16 ▸ digit_ok hk (n % 16) (by omega)) ?_ | refine VC_pure (digit_ok hk n (by omega)) ?_ | (simp -implicitDefEqProofs (maxSteps := 2000000) (disch := first | omega | (simp only [vz_push, vz_set, drop_size]; first | done | omega)) only [push_cast, seval, f80N0, f80N1, hl]))
      all_goals exact out_tx (by (repeat first | assumption | exact KeepA.refl _ | apply KeepA.push | refine KeepA.set ?_ (by first | omega | (simp only [vz_push, vz_set, drop_size]; omega) | (have h9 := KeepA.size_le (by assumption); (try simp only [vz_push, vz_set, drop_size] at *); omega)) _ | refine KeepA.drop ?_ (by first | omega | (simp only [vz_push, vz_set, drop_size]; omega) | (have h9 := KeepA.size_le (by assumption); (try simp only [vz_push, vz_set, drop_size] at *); omega)) | refine KeepA.trans ?_ (by assumption))) (by rw [hR]; (try rw [Nat.mod_eq_of_lt (by omega : n < 16)]))
/-- At least so many hex digits, for any number. -/
def hexI (n a : Int) : List UInt8 := if n < 0 then [] else hexP n.toNat (min (max a 1) 16).toNat
theorem hex_ok (hrep : ∀ d : Nat, d ≤ 16 → PC (XK k) 95 [tx [48], .c (.int .i64 d)] (tx (List.replicate d 48))) (n a : Int) (hn : n < 9223372036854775808) : PC (XK k) 66 [.c (.int .i64 n), .c (.int .i64 a)] (tx (hexI n a)) := by
  refine PC_of fun s => ?_
  refine f66_in (hk _ (by decide)) ?_
  by_cases h0 : n < 0
  · repeat' (first | ((first | apply ga_dec | apply ga_ndec | apply cd_dec | apply cd_ndec | apply gd_dec | apply gd_ndec | apply ga_split | apply cd_split | apply gd_split) <;> intro hc <;> (try (simp -implicitDefEqProofs (maxSteps := 2000000) (disch := first | omega | (simp only [vz_push, vz_set, drop_size]; first | done | omega)) only [push_cast, seval, f66N0, f66N1, hc])) <;> (try (exfalso; omega))) | (simp -implicitDefEqProofs (maxSteps := 2000000) (disch := first | omega | (simp only [vz_push, vz_set, drop_size]; first | done | omega)) only [push_cast, seval, f66N0, f66N1]))
    exact out_tx (by (repeat first | assumption | exact KeepA.refl _ | apply KeepA.push | refine KeepA.set ?_ (by first | omega | (simp only [vz_push, vz_set, drop_size]; omega) | (have h9 := KeepA.size_le (by assumption); (try simp only [vz_push, vz_set, drop_size] at *); omega)) _ | refine KeepA.drop ?_ (by first | omega | (simp only [vz_push, vz_set, drop_size]; omega) | (have h9 := KeepA.size_le (by assumption); (try simp only [vz_push, vz_set, drop_size] at *); omega)) | refine KeepA.trans ?_ (by assumption))) (by unfold hexI; rw [if_pos h0])
  · obtain ⟨m, rfl⟩ := Int.eq_ofNat_of_zero_le (by omega : 0 ≤ n)
    obtain ⟨b, hb⟩ : ∃ b : Nat, min (max a 1) 16 = (b : Int) := ⟨(min (max a 1) 16).toNat, by omega⟩
    have hb16 : 1 ≤ b ∧ b ≤ 16 := by omega
    have hcl : (if (16 : Int) < (if a < 1 then 1 else a) then 16 else (if a < 1 then 1 else a)) = (b : Int) := by omega
    have hdl := digs_len 16 (by omega) 63 m (by omega)
    have hI : hexI m a = hexP m b := by unfold hexI; rw [if_neg h0, hb]; rfl
    rw [hI]
    repeat' (first | ((first | apply ga_dec | apply ga_ndec | apply cd_dec | apply cd_ndec | apply gd_dec | apply gd_ndec | apply ga_split | apply cd_split | apply gd_split) <;> intro hc <;> (try (simp -implicitDefEqProofs (maxSteps := 2000000) (disch := first | omega | (simp only [vz_push, vz_set, drop_size]; first | done | omega)) only [push_cast, seval, f66N0, f66N1, hc, hcl, hdl])) <;> (try (exfalso; omega))) | refine VC_pure (teller_ok hk _) ?_ | refine VC_pure (teller1_ok hk 16 m (.inr rfl) (by omega)) ?_ | (simp -implicitDefEqProofs (maxSteps := 2000000) (disch := first | omega | (simp only [vz_push, vz_set, drop_size]; first | done | omega)) only [push_cast, seval, f66N0, f66N1, hcl, hdl]))
    · have e1 : (b : Int) - ((digs 16 m).length : Int) = ((b - (digs 16 m).length : Nat) : Int) := by omega
      rw [e1]
      refine VC_pure (hrep (b - (digs 16 m).length) (by omega)) ?_
      (try (simp -implicitDefEqProofs (maxSteps := 2000000) (disch := first | omega | (simp only [vz_push, vz_set, drop_size]; first | done | omega)) only [push_cast, seval, f66N0, f66N1, hdl, List.length_replicate])) <;> (repeat' ((first | apply ga_dec | apply ga_ndec | apply cd_dec | apply cd_ndec | apply gd_dec | apply gd_ndec | apply ga_split | apply cd_split | apply gd_split) <;> intro hc <;> try (simp -implicitDefEqProofs (maxSteps := 2000000) (disch := first | omega | (simp only [vz_push, vz_set, drop_size]; first | done | omega)) only [push_cast, seval, f66N0, f66N1, hc, hdl, List.length_replicate])))
      exact out_tx (by (repeat first | assumption | exact KeepA.refl _ | apply KeepA.push | refine KeepA.set ?_ (by first | omega | (simp only [vz_push, vz_set, drop_size]; omega) | (have h9 := KeepA.size_le (by assumption); (try simp only [vz_push, vz_set, drop_size] at *); omega)) _ | refine KeepA.drop ?_ (by first | omega | (simp only [vz_push, vz_set, drop_size]; omega) | (have h9 := KeepA.size_le (by assumption); (try simp only [vz_push, vz_set, drop_size] at *); omega)) | refine KeepA.trans ?_ (by assumption))) rfl
    · refine out_tx (by (repeat first | assumption | exact KeepA.refl _ | apply KeepA.push | refine KeepA.set ?_ (by first | omega | (simp only [vz_push, vz_set, drop_size]; omega) | (have h9 := KeepA.size_le (by assumption); (try simp only [vz_push, vz_set, drop_size] at *); omega)) _ | refine KeepA.drop ?_ (by first | omega | (simp only [vz_push, vz_set, drop_size]; omega) | (have h9 := KeepA.size_le (by assumption); (try simp only [vz_push, vz_set, drop_size] at *); omega)) | refine KeepA.trans ?_ (by assumption))) ?_
      unfold hexP
      rw [show b - (digs 16 m).length = 0 by omega]
      rfl
theorem right_ok' (v : Int) : PC (XK k) 88 [.c (.int .i64 v)] (.c (.bool (right v))) := right_ok hk v
omit hk in
/-- What a value that may be is as bytes; else none. -/
def encR (v : Int) : List UInt8 := if right v then encV v else []
omit hk in
theorem right_rng {v : Int} (h : right v = true) : 0 ≤ v ∧ v ≤ 1114367 ∧ (v ≤ 1114111 → v < 55296 ∨ 57343 < v) ∧ (¬ v ≤ 1114111 → 1114240 ≤ v) := by
  unfold right at h
  simp only [Bool.or_eq_true, Bool.and_eq_true, decide_eq_true_eq, Bool.not_eq_true', Bool.and_eq_false_iff, decide_eq_false_iff_not] at h
  omega
omit hk in
theorem encV_len4 (v : Int) : (encV v).length ≤ 4 := by
  unfold encV
  (repeat' split) <;> simp
omit hk in
theorem encR_len4 (v : Int) : (encR v).length ≤ 4 := by
  unfold encR
  split
  · exact encV_len4 v
  · simp
omit hk in
theorem cell_eq {x : Int} {n : Nat} (h : x = n) (h2 : n < 256) : AV.c (.int .u8 x) = cB (UInt8.ofNat n) := by
  unfold cB
  rw [byte_of h2, h]
theorem appendRuneN_gw (r : Int) (hr : 128 ≤ r ∧ r ≤ 1114111 ∧ (r < 55296 ∨ 57343 < r)) {s0 s : VS} {v : AV} {l : List UInt8} (h : Gw s0 s 5 1 v l.length (l.map cB)) (hl : l.length < 1099511627776) (hk0 : KeepA s0 s) :
    VC (XK k) 108 [v, .c (.int .i32 r)] s fun v' s' => Gw s0 s' 5 1 v' (l ++ encV r).length ((l ++ encV r).map cB) ∧ KeepA s0 s' ∧ But s s' v := by
  refine f108_in (hk _ (by decide)) ?_
  have fin : ∀ (ws : List AV) (bs : List UInt8) (m : Nat), ws = bs.map cB → bs.length = m → encV r = bs → ∀ {v' s'}, Gw s0 s' 5 1 v' (l.length + m) (l.map cB ++ ws) → Gw s0 s' 5 1 v' (l ++ encV r).length ((l ++ encV r).map cB) := by
    rintro ws bs m rfl rfl h3 v' s' hg
    rw [h3]
    exact hg.cast (by simp) (by simp)
  repeat' (first | ((first | apply ga_dec | apply ga_ndec | apply cd_dec | apply cd_ndec | apply gd_dec | apply gd_ndec | apply ga_split | apply cd_split | apply gd_split) <;> intro hc <;> (try (simp -implicitDefEqProofs (maxSteps := 2000000) (disch := first | omega | (simp only [vz_push, vz_set, drop_size]; first | done | omega)) only [push_cast, seval, f108N0, f108N1, f108N2, hc])) <;> (try (exfalso; omega))) | (simp -implicitDefEqProofs (maxSteps := 2000000) (disch := first | omega | (simp only [vz_push, vz_set, drop_size]; first | done | omega)) only [push_cast, seval, f108N0, f108N1, f108N2]))
  all_goals
    refine Gw.step (h.push _) (hk0.push _) rfl rfl rfl (room_ok (by constructor <;> (try dsimp only) <;> omega)) ?_
    intro v' s' hg hb hn hk'
    (try (simp -implicitDefEqProofs (maxSteps := 2000000) (disch := first | omega | (simp only [vz_push, vz_set, drop_size]; first | done | omega)) only [push_cast, seval, f108N0, f108N1, f108N2])) <;> (repeat' ((first | apply ga_dec | apply ga_ndec | apply cd_dec | apply cd_ndec | apply gd_dec | apply gd_ndec | apply ga_split | apply cd_split | apply gd_split) <;> intro hc <;> try (simp -implicitDefEqProofs (maxSteps := 2000000) (disch := first | omega | (simp only [vz_push, vz_set, drop_size]; first | done | omega)) only [push_cast, seval, f108N0, f108N1, f108N2, hc])))
    refine ⟨?_, hk', (But.push _ v).trans hb (fun _ _ h => h)⟩
  · refine fin _ [UInt8.ofNat (192 + r.toNat / 64), UInt8.ofNat (128 + r.toNat % 64)] 2 ?_ rfl ?_ hg
    · simp only [List.map_cons, List.map_nil]
      rw [cell_eq (n := 192 + r.toNat / 64) (by omega) (by omega), cell_eq (n := 128 + r.toNat % 64) (by omega) (by omega)]
    · unfold encV; rw [if_neg (by omega), if_pos (by omega)]
  iterate 2
    · refine fin _ [UInt8.ofNat (224 + r.toNat / 4096), UInt8.ofNat (128 + r.toNat / 64 % 64), UInt8.ofNat (128 + r.toNat % 64)] 3 ?_ rfl ?_ hg
      · simp only [List.map_cons, List.map_nil]
        rw [cell_eq (n := 224 + r.toNat / 4096) (by omega) (by omega), cell_eq (n := 128 + r.toNat / 64 % 64) (by omega) (by omega), cell_eq (n := 128 + r.toNat % 64) (by omega) (by omega)]
      · unfold encV; rw [if_neg (by omega), if_neg (by omega), if_pos (by omega)]
  · refine fin _ [UInt8.ofNat (240 + r.toNat / 262144), UInt8.ofNat (128 + r.toNat / 4096 % 64), UInt8.ofNat (128 + r.toNat / 64 % 64), UInt8.ofNat (128 + r.toNat % 64)] 4 ?_ rfl ?_ hg
    · simp only [List.map_cons, List.map_nil]
      rw [cell_eq (n := 240 + r.toNat / 262144) (by omega) (by omega), cell_eq (n := 128 + r.toNat / 4096 % 64) (by omega) (by omega), cell_eq (n := 128 + r.toNat / 64 % 64) (by omega) (by omega), cell_eq (n := 128 + r.toNat % 64) (by omega) (by omega)]
    · unfold encV; rw [if_neg (by omega), if_neg (by omega), if_neg (by omega), if_pos (by omega)]
theorem appendRune_gw (r : Int) (hr : 0 ≤ r ∧ r ≤ 1114111 ∧ (r < 55296 ∨ 57343 < r)) {s0 s : VS} {v : AV} {l : List UInt8} (h : Gw s0 s 5 1 v l.length (l.map cB)) (hl : l.length < 1099511627776) (hk0 : KeepA s0 s) :
    VC (XK k) 93 [v, .c (.int .i32 r)] s fun v' s' => Gw s0 s' 5 1 v' (l ++ encV r).length ((l ++ encV r).map cB) ∧ KeepA s0 s' ∧ But s s' v := by
  refine f93_in (hk _ (by decide)) ?_
  (try (simp -implicitDefEqProofs (maxSteps := 2000000) (disch := first | omega | (simp only [vz_push, vz_set, drop_size]; first | done | omega)) only [push_cast, seval, f93N0, f93N1])) <;> (repeat' ((first | apply ga_dec | apply ga_ndec | apply cd_dec | apply cd_ndec | apply gd_dec | apply gd_ndec | apply ga_split | apply cd_split | apply gd_split) <;> intro hc <;> try (simp -implicitDefEqProofs (maxSteps := 2000000) (disch := first | omega | (simp only [vz_push, vz_set, drop_size]; first | done | omega)) only [push_cast, seval, f93N0, f93N1, hc])))
  · refine Gw.step (m := 1) (h.push _) (hk0.push _) rfl rfl rfl (room_ok (by constructor <;> (try dsimp only) <;> omega)) ?_
    intro v' s' hg hb hn hk'
    (try (simp -implicitDefEqProofs (maxSteps := 2000000) (disch := first | omega | (simp only [vz_push, vz_set, drop_size]; first | done | omega)) only [push_cast, seval, f93N0, f93N1])) <;> (repeat' ((first | apply ga_dec | apply ga_ndec | apply cd_dec | apply cd_ndec | apply gd_dec | apply gd_ndec | apply ga_split | apply cd_split | apply gd_split) <;> intro hc <;> try (simp -implicitDefEqProofs (maxSteps := 2000000) (disch := first | omega | (simp only [vz_push, vz_set, drop_size]; first | done | omega)) only [push_cast, seval, f93N0, f93N1, hc])))
    refine ⟨?_, hk', (But.push _ v).trans hb (fun _ _ h => h)⟩
    have e : encV r = [UInt8.ofNat r.toNat] := by unfold encV; rw [if_pos (by omega)]
    rw [e, List.length_append, List.map_append]
    rw [cell_eq (x := r) (n := r.toNat) (by omega) (by omega)] at hg
    exact hg
  · refine VC_mono (appendRuneN_gw hk r (by omega) h hl hk0) ?_
    rintro v' s' ⟨h1, h2, h3⟩
    (try (simp -implicitDefEqProofs (maxSteps := 2000000) (disch := first | omega | (simp only [vz_push, vz_set, drop_size]; first | done | omega)) only [push_cast, seval, f93N0, f93N1])) <;> (repeat' ((first | apply ga_dec | apply ga_ndec | apply cd_dec | apply cd_ndec | apply gd_dec | apply gd_ndec | apply ga_split | apply cd_split | apply gd_split) <;> intro hc <;> try (simp -implicitDefEqProofs (maxSteps := 2000000) (disch := first | omega | (simp only [vz_push, vz_set, drop_size]; first | done | omega)) only [push_cast, seval, f93N0, f93N1, hc])))
    exact ⟨h1, h2, h3⟩
theorem encode_ok (l : List Int) (hl : l.length < 268435456) : PC (XK k) 65 [LI l] (tx (l.flatMap encR)) := by
  refine PC_of fun s => ?_
  refine f65_in (hk _ (by decide)) ?_
  have hroom : roomOk l.length 1 = true := (room_ok (by constructor <;> (try dsimp only) <;> omega))
  have hlen4 : ∀ j, ((l.take j).flatMap encR).length ≤ 4 * l.length := fun j => by
    have : ∀ (m : List Int), (m.flatMap encR).length ≤ 4 * m.length := fun m => by
      induction m with
      | nil => simp
      | cons a m ih => rw [List.flatMap_cons, List.length_append, List.length_cons]; have := encR_len4 a; omega
    have h := this (l.take j)
    rw [List.length_take] at h
    omega
  (try (simp -implicitDefEqProofs (maxSteps := 2000000) (disch := first | omega | (simp only [vz_push, vz_set, drop_size]; first | done | omega)) only [push_cast, seval, f65N0, f65N1, f65N2, hroom])) <;> (repeat' ((first | apply ga_dec | apply ga_ndec | apply cd_dec | apply cd_ndec | apply gd_dec | apply gd_ndec | apply ga_split | apply cd_split | apply gd_split) <;> intro hc <;> try (simp -implicitDefEqProofs (maxSteps := 2000000) (disch := first | omega | (simp only [vz_push, vz_set, drop_size]; first | done | omega)) only [push_cast, seval, f65N0, f65N1, f65N2, hc, hroom])))
  refine VW_iter (fun m ρ s' => ∃ j : Nat, m = l.length - j ∧ j ≤ l.length ∧ ρ.get 9 = LI l ∧ ρ.get 10 = .c (.int .i64 l.length) ∧ ρ.get 11 = .c (.int .i64 j) ∧ (Gw s s' 5 1 (ρ.get 3) ((l.take j).flatMap encR).length (((l.take j).flatMap encR).map cB)) ∧ (KeepA s s')) (l.length) ⟨0, rfl, Nat.zero_le _, by (((try simp -implicitDefEqProofs only [eA_tmp, eA_const, AEnv.get_set, ofA_get, List.getD_cons_zero, List.getD_cons_succ, ↓reduceIte, reduceCtorEq, Nat.reduceEqDiff]); try (first | (with_reducible assumption) | (with_reducible rfl) | (congr 2 <;> omega) | rfl))), by (((try simp -implicitDefEqProofs only [eA_tmp, eA_const, AEnv.get_set, ofA_get, List.getD_cons_zero, List.getD_cons_succ, ↓reduceIte, reduceCtorEq, Nat.reduceEqDiff]); try (first | (with_reducible assumption) | (with_reducible rfl) | (congr 2 <;> omega) | rfl))), by (((try simp -implicitDefEqProofs only [eA_tmp, eA_const, AEnv.get_set, ofA_get, List.getD_cons_zero, List.getD_cons_succ, ↓reduceIte, reduceCtorEq, Nat.reduceEqDiff]); try (first | (with_reducible assumption) | (with_reducible rfl) | (congr 2 <;> omega) | rfl))), (by refine (Gw.room s.size 0 l.length [] _ _ (gp_eq rfl) (Nat.le_refl _) (by simp) ?_ (Nat.zero_le _)).cast rfl rfl; simp [reps_len]), by (repeat first | assumption | exact KeepA.refl _ | apply KeepA.push | refine KeepA.set ?_ (by first | omega | (simp only [vz_push, vz_set, drop_size]; omega) | (have h9 := KeepA.size_le (by assumption); (try simp only [vz_push, vz_set, drop_size] at *); omega)) _ | refine KeepA.drop ?_ (by first | omega | (simp only [vz_push, vz_set, drop_size]; omega) | (have h9 := KeepA.size_le (by assumption); (try simp only [vz_push, vz_set, drop_size] at *); omega)) | refine KeepA.trans ?_ (by assumption))⟩ ?_
  rintro m ρ s' ⟨j, rfl, hj, g9, g10, g11, j1, j2⟩
  obtain ⟨v, g3⟩ : ∃ v, ρ.get 3 = v := ⟨_, rfl⟩
  rw [g3] at j1
  simp -implicitDefEqProofs (maxSteps := 2000000) (disch := first | omega | (simp only [vz_push, vz_set, drop_size]; first | done | omega)) only [push_cast, seval, f65N0, f65N1, f65N2, g9, g10, g11]
  refine cd_dec (fun hc => ?_) (fun hc => ?_)
  · obtain ⟨x, hx⟩ : ∃ x, l[j]? = some x := ⟨_, List.getElem?_eq_getElem (by omega)⟩
    have hstep : (l.take (j + 1)).flatMap encR = (l.take j).flatMap encR ++ encR x := by rw [take_snoc hx, List.flatMap_append]; simp
    have h4 := hlen4 j
    generalize (l.take j).flatMap encR = bs at *
    cases hr : right x
    · repeat' (first | ((first | apply ga_dec | apply ga_ndec | apply cd_dec | apply cd_ndec | apply gd_dec | apply gd_ndec | apply ga_split | apply cd_split | apply gd_split) <;> intro hc <;> (try (simp -implicitDefEqProofs (maxSteps := 2000000) (disch := first | omega | (simp only [vz_push, vz_set, drop_size]; first | done | omega)) only [push_cast, seval, f65N0, f65N1, f65N2, hc, g9, g10, g11, g3, hx, eI, hr])) <;> (try (exfalso; omega))) | refine VC_pure (right_ok hk _) ?_ | (simp -implicitDefEqProofs (maxSteps := 2000000) (disch := first | omega | (simp only [vz_push, vz_set, drop_size]; first | done | omega)) only [push_cast, seval, f65N0, f65N1, f65N2, g9, g10, g11, g3, hx, eI, hr]))
      have e : encR x = [] := by unfold encR; rw [hr]; rfl
      rw [e, List.append_nil] at hstep
      refine ⟨_ - (j + 1), by omega, j + 1, rfl, by omega, ?_⟩ <;> (try simp only [Int.natCast_add, Int.natCast_one, cast_lit, and_true, true_and, eq_self])
      rw [hstep]
      exact ⟨j1, j2⟩
    · obtain ⟨q1, q2, q3, q4⟩ := right_rng hr
      repeat' (first | ((first | apply ga_dec | apply ga_ndec | apply cd_dec | apply cd_ndec | apply gd_dec | apply gd_ndec | apply ga_split | apply cd_split | apply gd_split) <;> intro hc <;> (try (simp -implicitDefEqProofs (maxSteps := 2000000) (disch := first | omega | (simp only [vz_push, vz_set, drop_size]; first | done | omega)) only [push_cast, seval, f65N0, f65N1, f65N2, hc, g9, g10, g11, g3, hx, eI, hr])) <;> (try (exfalso; omega))) | refine VC_pure (right_ok hk _) ?_ | (simp -implicitDefEqProofs (maxSteps := 2000000) (disch := first | omega | (simp only [vz_push, vz_set, drop_size]; first | done | omega)) only [push_cast, seval, f65N0, f65N1, f65N2, g9, g10, g11, g3, hx, eI, hr]))
      · refine Gw.step (j1.push _) (j2.push _) rfl rfl rfl (room_ok (by constructor <;> (try dsimp only) <;> omega)) ?_
        intro v' s2 hg hb hn hk'
        (try (simp -implicitDefEqProofs (maxSteps := 2000000) (disch := first | omega | (simp only [vz_push, vz_set, drop_size]; first | done | omega)) only [push_cast, seval, f65N0, f65N1, f65N2, g9, g10, g11])) <;> (repeat' ((first | apply ga_dec | apply ga_ndec | apply cd_dec | apply cd_ndec | apply gd_dec | apply gd_ndec | apply ga_split | apply cd_split | apply gd_split) <;> intro hc <;> try (simp -implicitDefEqProofs (maxSteps := 2000000) (disch := first | omega | (simp only [vz_push, vz_set, drop_size]; first | done | omega)) only [push_cast, seval, f65N0, f65N1, f65N2, hc, g9, g10, g11])))
        refine ⟨_ - (j + 1), by omega, j + 1, rfl, by omega, ?_⟩ <;> (try simp only [Int.natCast_add, Int.natCast_one, cast_lit, and_true, true_and, eq_self])
        have e : encR x = [UInt8.ofNat (x.toNat - 1114112)] := by unfold encR encV; rw [hr, if_pos rfl, if_neg (by omega), if_neg (by omega), if_neg (by omega), if_neg (by omega)]
        rw [hstep, e]
        refine ⟨hg.cast (by simp) ?_, hk'⟩
        rw [List.map_append, cell_eq (n := x.toNat - 1114112) (by omega) (by omega)]
        rfl
      · refine VC_mono (appendRune_gw hk x (by omega) j1 (by omega) j2) ?_
        rintro v' s2 ⟨h1, h2, h3⟩
        (try (simp -implicitDefEqProofs (maxSteps := 2000000) (disch := first | omega | (simp only [vz_push, vz_set, drop_size]; first | done | omega)) only [push_cast, seval, f65N0, f65N1, f65N2, g9, g10, g11])) <;> (repeat' ((first | apply ga_dec | apply ga_ndec | apply cd_dec | apply cd_ndec | apply gd_dec | apply gd_ndec | apply ga_split | apply cd_split | apply gd_split) <;> intro hc <;> try (simp -implicitDefEqProofs (maxSteps := 2000000) (disch := first | omega | (simp only [vz_push, vz_set, drop_size]; first | done | omega)) only [push_cast, seval, f65N0, f65N1, f65N2, hc, g9, g10, g11])))
        refine ⟨_ - (j + 1), by omega, j + 1, rfl, by omega, ?_⟩ <;> (try simp only [Int.natCast_add, Int.natCast_one, cast_lit, and_true, true_and, eq_self])
        have e : encR x = encV x := by unfold encR; rw [hr, if_pos rfl]
        rw [hstep, e]
        exact ⟨h1, h2⟩
  · obtain rfl : j = l.length := by omega
    rw [List.take_length] at j1
    have hct : convertA (XK k) 84 9 v s' = some (tx (l.flatMap encR), s') := j1.text ty84 ty9 rfl rfl und5
    simp -implicitDefEqProofs (maxSteps := 2000000) (disch := first | omega | (simp only [vz_push, vz_set, drop_size]; first | done | omega)) only [push_cast, seval, f65N0, f65N1, f65N2, g9, g10, g11, g3]
    simp -implicitDefEqProofs (maxSteps := 2000000) (disch := first | omega | (simp only [vz_push, vz_set, drop_size]; first | done | omega)) only [push_cast, seval, f65N0, f65N1, f65N2, g9] at hct
    rw [hct]
    simp -implicitDefEqProofs (maxSteps := 2000000) (disch := first | omega | (simp only [vz_push, vz_set, drop_size]; first | done | omega)) only [push_cast, seval, f65N0, f65N1, f65N2, g9]
    exact out_tx (by (repeat first | assumption | exact KeepA.refl _ | apply KeepA.push | refine KeepA.set ?_ (by first | omega | (simp only [vz_push, vz_set, drop_size]; omega) | (have h9 := KeepA.size_le (by assumption); (try simp only [vz_push, vz_set, drop_size] at *); omega)) _ | refine KeepA.drop ?_ (by first | omega | (simp only [vz_push, vz_set, drop_size]; omega) | (have h9 := KeepA.size_le (by assumption); (try simp only [vz_push, vz_set, drop_size] at *); omega)) | refine KeepA.trans ?_ (by assumption))) rfl
omit hk in
theorem LI1 (x : Int) : LI [x] = .lst 1 [[.c (.int .i64 x)]] := rfl
omit hk in
/-- A row of one whole number, handed over. -/
theorem VC_one {X : Prg} {s : VS} {f b e : Nat} {x : Int} {r : AV} {K : AV → VS → Prop} (hg : s.get b = some (.own ⟨[.c (.int .i64 x)], e, 0, 0, false⟩)) (h : PC X f [LI [x]] r) (hr : Rigid r) (hK : K r s) : VC X f [.sl ⟨b, 0, none⟩ 1 (capX 1)] s K := by
  refine VC_lent h (Ses.cons (Se.sl (sz := 1) (xs := [[.c (.int .i64 x)]]) hg trivial rfl (by simp) (by rw [capX_half]; omega) rfl (fun y hy => by simp at hy; subst hy; rfl) ?_) Ses.nil) hr hK
  exact Ses.firm (FirmR.cons (Firm.c _) FirmR.nil)
end
end Go.Proofs.YtpckldhojfjdmaaDoor.Ab
