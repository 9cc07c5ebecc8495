import Derived.Test.YticllcglldbffaaDoorD
namespace Go.Proofs.YticllcglldbffaaDoor.Ab
set_option linter.unusedVariables false
def dig (n : Nat) : UInt8 := UInt8.ofNat (if n < 10 then 48 + n else 55 + n)
def dT (b : Nat) (n : Nat) : List UInt8 := if h : 2 ≤ b ∧ b ≤ n then dT b (n / b) ++ [dig (n % b)] else [dig n]
termination_by n
decreasing_by exact Nat.div_lt_self (by omega) (by omega)
theorem dY {b n : Nat} (h : n < b) : dT b n = [dig n] := by rw [dT, dif_neg (by omega)]
theorem fk {b n : Nat} (hb : 2 ≤ b) (h : b ≤ n) : dT b n = dT b (n / b) ++ [dig (n % b)] := by rw [dT, dif_pos ⟨hb, h⟩]
theorem SN (b n : Nat) (hb : 2 ≤ b) : dT b n = (if n / b = 0 then [] else dT b (n / b)) ++ [dig (n % b)] := by
  by_cases h : b ≤ n
  · have : n / b ≠ 0 := by
      have := Nat.div_pos h (by omega)
      omega
    rw [if_neg this, fk hb h]
  · have h0 : n / b = 0 := Nat.div_eq_of_lt (by omega)
    rw [if_pos h0, dY (by omega), Nat.mod_eq_of_lt (by omega)]
    rfl
theorem uN (b : Nat) (hb : 2 ≤ b) : ∀ (k n : Nat), n < 2 ^ (k + 1) → (dT b n).length ≤ k + 1
  | k, n, h => by
    by_cases hbn : b ≤ n
    · rw [fk hb hbn, List.length_append, List.length_singleton]
      match k, h with
      | 0, h => omega
      | k + 1, h =>
        have h2 : n / b < 2 ^ (k + 1) := by
          refine Nat.lt_of_le_of_lt (Nat.div_le_div_left hb (by omega)) ?_
          rw [Nat.div_lt_iff_lt_mul (by omega), ← Nat.pow_succ]
          exact h
        have := uN b hb k (n / b) h2
        omega
    · rw [dY (by omega)]; simp
theorem uV (b n : Nat) : 0 < (dT b n).length := by
  rw [dT]
  split <;> simp
theorem Hv {n : Nat} (h : n < 16) : (dig n).toNat = if n < 10 then 48 + n else 55 + n := by
  unfold dig
  split <;> rw [UInt8.toNat_ofNat_of_lt' (by simp [UInt8.size]; omega)]
def bv (v : Int) : List UInt8 :=
  if v < 128 then [UInt8.ofNat v.toNat]
  else if v < 2048 then [UInt8.ofNat (192 + v.toNat / 64), UInt8.ofNat (128 + v.toNat % 64)]
  else if v < 65536 then [UInt8.ofNat (224 + v.toNat / 4096), UInt8.ofNat (128 + v.toNat / 64 % 64), UInt8.ofNat (128 + v.toNat % 64)]
  else if v ≤ 1114111 then [UInt8.ofNat (240 + v.toNat / 262144), UInt8.ofNat (128 + v.toNat / 4096 % 64), UInt8.ofNat (128 + v.toNat / 64 % 64), UInt8.ofNat (128 + v.toNat % 64)]
  else [UInt8.ofNat (v.toNat - 1114112)]
theorem af7 (v : Int) (h0 : 0 ≤ v) (h : v ≤ 1114111) : (bv v).length = if v < 128 then 1 else if v < 2048 then 2 else if v < 65536 then 3 else 4 := by
  unfold bv
  (repeat' split) <;> first | rfl | omega
end Go.Proofs.YticllcglldbffaaDoor.Ab
