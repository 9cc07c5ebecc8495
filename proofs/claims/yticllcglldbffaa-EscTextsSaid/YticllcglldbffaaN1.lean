/- Digits, and values' bytes: plain Lean. -/
import Derived.Test.YticllcglldbffaaD
namespace Go.Proofs.Yticllcglldbffaa.Ab
set_option linter.unusedVariables false
def dig (n : Nat) : UInt8 := UInt8.ofNat (if n < 10 then 48 + n else 55 + n)
/-- A number's digits. -/
def digs (b : Nat) (n : Nat) : List UInt8 := if h : 2 ≤ b ∧ b ≤ n then digs b (n / b) ++ [dig (n % b)] else [dig n]
termination_by n
decreasing_by exact Nat.div_lt_self (by omega) (by omega)
theorem digs_lt {b n : Nat} (h : n < b) : digs b n = [dig n] := by rw [digs, dif_neg (by omega)]
theorem digs_ge {b n : Nat} (hb : 2 ≤ b) (h : b ≤ n) : digs b n = digs b (n / b) ++ [dig (n % b)] := by rw [digs, dif_pos ⟨hb, h⟩]
theorem digs_step (b n : Nat) (hb : 2 ≤ b) : digs b n = (if n / b = 0 then [] else digs b (n / b)) ++ [dig (n % b)] := by
  by_cases h : b ≤ n
  · have : n / b ≠ 0 := by
      have := Nat.div_pos h (by omega)
      omega
    rw [if_neg this, digs_ge hb h]
  · have h0 : n / b = 0 := Nat.div_eq_of_lt (by omega)
    rw [if_pos h0, digs_lt (by omega), Nat.mod_eq_of_lt (by omega)]
    rfl
theorem digs_len (b : Nat) (hb : 2 ≤ b) : ∀ (k n : Nat), n < 2 ^ (k + 1) → (digs b n).length ≤ k + 1
  | k, n, h => by
    by_cases hbn : b ≤ n
    · rw [digs_ge hb hbn, List.length_append, List.length_singleton]
      match k, h with
      | 0, h => omega
      | k + 1, h =>
        have h2 : n / b < 2 ^ (k + 1) := by
          refine Nat.lt_of_le_of_lt (Nat.div_le_div_left hb (by omega)) ?_
          rw [Nat.div_lt_iff_lt_mul (by omega), ← Nat.pow_succ]
          exact h
        have := digs_len b hb k (n / b) h2
        omega
    · rw [digs_lt (by omega)]; simp
theorem digs_pos (b n : Nat) : 0 < (digs b n).length := by
  rw [digs]
  split <;> simp
/-- The document's hex digits, at least so many. -/
def hexR (n l : Nat) : List UInt8 := if h : n < 16 ∧ l ≤ 1 then [dig n] else hexR (n / 16) (l - 1) ++ [dig (n % 16)]
termination_by n + l
decreasing_by
  have : n / 16 ≤ n := Nat.div_le_self n 16
  by_cases h1 : n < 16
  · omega
  · have : n / 16 < n := Nat.div_lt_self (by omega) (by omega)
    omega
def hexP (n l : Nat) : List UInt8 := List.replicate (l - (digs 16 n).length) 48 ++ digs 16 n
theorem hexR_eq : ∀ (m n l : Nat), n + l ≤ m → hexR n l = hexP n l
  | m, n, l, hm => by
    rw [hexR]
    unfold hexP
    split
    · rename_i h
      rw [digs_lt (by omega)]
      have : l - [dig n].length = 0 := by simp; omega
      rw [this]; rfl
    · rename_i h
      by_cases h1 : n < 16
      · have h0 : n / 16 = 0 := by omega
        have h2 : n % 16 = n := by omega
        match m, hm with
        | 0, hm => omega
        | m + 1, hm =>
          rw [h0, h2, hexR_eq m 0 (l - 1) (by omega), digs_lt h1]
          unfold hexP
          rw [digs_lt (by omega : 0 < 16)]
          have e1 : l - 1 - [dig 0].length + 1 = l - [dig n].length := by simp; omega
          rw [← e1, List.replicate_succ', show dig 0 = 48 from rfl]
      · match m, hm with
        | 0, hm => omega
        | m + 1, hm =>
          rw [hexR_eq m (n / 16) (l - 1) (by omega), digs_ge (by omega) (by omega : 16 ≤ n)]
          unfold hexP
          rw [List.append_assoc, List.length_append, List.length_singleton]
          congr 2
          omega
theorem hexR_same (n l : Nat) : hexR n l = hexP n l := hexR_eq _ n l (Nat.le_refl _)
def dval (c : UInt8) : Nat := if c.toNat < 58 then c.toNat - 48 else c.toNat - 55
def valH (l : List UInt8) : Nat := l.foldl (fun a c => a * 16 + dval c) 0
theorem valH_snoc (l : List UInt8) (c : UInt8) : valH (l ++ [c]) = valH l * 16 + dval c := by simp [valH]
theorem dig_nat {n : Nat} (h : n < 16) : (dig n).toNat = if n < 10 then 48 + n else 55 + n := by
  unfold dig
  split <;> rw [UInt8.toNat_ofNat_of_lt' (by simp [UInt8.size]; omega)]
theorem dval_dig {n : Nat} (h : n < 16) : dval (dig n) = n := by
  unfold dval
  rw [dig_nat h]
  (repeat' split) <;> omega
theorem valH_digs : ∀ (m n : Nat), n ≤ m → valH (digs 16 n) = n
  | m, n, hm => by
    by_cases h : n < 16
    · rw [digs_lt h]
      have := dval_dig h
      simp [valH, this]
    · match m, hm with
      | 0, hm => omega
      | m + 1, hm =>
        rw [digs_ge (by omega) (by omega), valH_snoc, valH_digs m (n / 16) (by omega), dval_dig (Nat.mod_lt _ (by omega))]
        omega
theorem valH_zeros (l : List UInt8) : ∀ k, valH (List.replicate k 48 ++ l) = valH l
  | 0 => rfl
  | k + 1 => by
    rw [List.replicate_succ, List.cons_append]
    have : valH (48 :: (List.replicate k 48 ++ l)) = valH (List.replicate k 48 ++ l) := by simp [valH, dval]
    rw [this, valH_zeros l k]
theorem valH_hexP (n l : Nat) : valH (hexP n l) = n := by
  unfold hexP
  rw [valH_zeros, valH_digs n n (Nat.le_refl _)]
theorem hexP_inj {n m l : Nat} (h : hexP n l = hexP m l) : n = m := by rw [← valH_hexP n l, ← valH_hexP m l, h]
theorem hexR_len {n : Nat} (l : Nat) (h : n < 18446744073709551616) : (hexR n l).length ≤ l + 64 := by
  rw [hexR_same]
  unfold hexP
  have := digs_len 16 (by omega) 63 n (by omega)
  rw [List.length_append, List.length_replicate]
  omega
/-- Digits are above 47, and below 71. -/
def digB (c : UInt8) : Bool := decide (48 ≤ c.toNat) && decide (c.toNat ≤ 70)
theorem digB_dig {n : Nat} (h : n < 16) : digB (dig n) = true := by
  unfold digB
  rw [dig_nat h]
  split <;> simp <;> omega
theorem digs_all : ∀ (m n : Nat), n ≤ m → (digs 16 n).all digB = true
  | m, n, hm => by
    by_cases h : n < 16
    · rw [digs_lt h]; simp [digB_dig h]
    · match m, hm with
      | 0, hm => omega
      | m + 1, hm =>
        rw [digs_ge (by omega) (by omega), List.all_append, digs_all m (n / 16) (by omega)]
        simp [digB_dig (Nat.mod_lt n (by omega : 16 > 0))]
theorem hexP_all (n l : Nat) : (hexP n l).all digB = true := by
  unfold hexP
  rw [List.all_append, digs_all n n (Nat.le_refl _), Bool.and_true, List.all_eq_true]
  intro x hx
  rw [List.mem_replicate] at hx
  rw [hx.2]; rfl
theorem hexP_len (n l k : Nat) (hk : l ≤ k + 1) (h : n < 2 ^ (k + 1)) : (hexP n l).length ≤ k + 1 ∧ l ≤ (hexP n l).length := by
  have := digs_len 16 (by omega) k n h
  unfold hexP
  rw [List.length_append, List.length_replicate]
  omega
/-- A value's bytes. -/
def encV (v : Int) : List UInt8 :=
  if v < 128 then [UInt8.ofNat v.toNat]
  else if v < 2048 then [UInt8.ofNat (192 + v.toNat / 64), UInt8.ofNat (128 + v.toNat % 64)]
  else if v < 65536 then [UInt8.ofNat (224 + v.toNat / 4096), UInt8.ofNat (128 + v.toNat / 64 % 64), UInt8.ofNat (128 + v.toNat % 64)]
  else if v ≤ 1114111 then [UInt8.ofNat (240 + v.toNat / 262144), UInt8.ofNat (128 + v.toNat / 4096 % 64), UInt8.ofNat (128 + v.toNat / 64 % 64), UInt8.ofNat (128 + v.toNat % 64)]
  else [UInt8.ofNat (v.toNat - 1114112)]
theorem ofNat_inj {a b : Nat} (ha : a < 256) (hb : b < 256) (h : UInt8.ofNat a = UInt8.ofNat b) : a = b := by
  have := congrArg UInt8.toNat h
  rwa [UInt8.toNat_ofNat_of_lt' (by simpa using ha), UInt8.toNat_ofNat_of_lt' (by simpa using hb)] at this
theorem encV_len (v : Int) (h0 : 0 ≤ v) (h : v ≤ 1114111) : (encV v).length = if v < 128 then 1 else if v < 2048 then 2 else if v < 65536 then 3 else 4 := by
  unfold encV
  (repeat' split) <;> first | rfl | omega
theorem encV_inj {v w : Int} (hv : 0 ≤ v) (hv1 : v ≤ 1114111) (hw : 0 ≤ w) (hw1 : w ≤ 1114111) (h : encV v = encV w) : v = w := by
  have hl := congrArg List.length h
  rw [encV_len v hv hv1, encV_len w hw hw1] at hl
  unfold encV at h
  (repeat' split at hl) <;> (try omega)
  · rw [if_pos (by assumption), if_pos (by assumption)] at h
    have := ofNat_inj (by omega) (by omega) (List.cons.inj h).1
    omega
  · rw [if_neg (by assumption), if_pos (by assumption), if_neg (by assumption), if_pos (by assumption)] at h
    have h1 := ofNat_inj (by omega) (by omega) (List.cons.inj h).1
    have h2 := ofNat_inj (by omega) (by omega) (List.cons.inj (List.cons.inj h).2).1
    omega
  · rw [if_neg (by assumption), if_neg (by assumption), if_pos (by assumption), if_neg (by assumption), if_neg (by assumption), if_pos (by assumption)] at h
    have h1 := ofNat_inj (by omega) (by omega) (List.cons.inj h).1
    have h2 := ofNat_inj (by omega) (by omega) (List.cons.inj (List.cons.inj h).2).1
    have h3 := ofNat_inj (by omega) (by omega) (List.cons.inj (List.cons.inj (List.cons.inj h).2).2).1
    omega
  · rw [if_neg (by assumption), if_neg (by assumption), if_neg (by assumption), if_pos hv1, if_neg (by assumption), if_neg (by assumption), if_neg (by assumption), if_pos hw1] at h
    have h1 := ofNat_inj (by omega) (by omega) (List.cons.inj h).1
    have h2 := ofNat_inj (by omega) (by omega) (List.cons.inj (List.cons.inj h).2).1
    have h3 := ofNat_inj (by omega) (by omega) (List.cons.inj (List.cons.inj (List.cons.inj h).2).2).1
    have h4 := ofNat_inj (by omega) (by omega) (List.cons.inj (List.cons.inj (List.cons.inj (List.cons.inj h).2).2).2).1
    omega
end Go.Proofs.Yticllcglldbffaa.Ab
