/- Reading digits: plain Lean. -/
import Derived.Test.YticllcglldbffaaN1
namespace Go.Proofs.Yticllcglldbffaa.Ab
set_option linter.unusedVariables false
set_option linter.unusedSimpArgs false
/-- A digit's value to a base. -/
def dof (b : Nat) (c : UInt8) : Option Nat := if 48 ≤ c.toNat ∧ c.toNat ≤ 57 then some (c.toNat - 48) else if 65 ≤ c.toNat ∧ c.toNat ≤ 70 ∧ 16 ≤ b then some (c.toNat - 55) else none
/-- Digits read, none above 'most'. -/
def rdr (b most : Nat) : Nat → List UInt8 → Option Nat
  | u, [] => some u
  | u, c :: l => match dof b c with
    | none => none
    | some d => if (most - d) / b < u then none else rdr b most (u * b + d) l
theorem dof_lt {b : Nat} {c : UInt8} {d : Nat} (hb : b = 10 ∨ b = 16) (h : dof b c = some d) : d < b := by
  unfold dof at h
  split at h
  · cases h; omega
  · split at h
    · cases h; omega
    · cases h
theorem dof_dig {b n : Nat} (hb : b = 10 ∨ b = 16) (h : n < b) : dof b (dig n) = some n := by
  unfold dof
  rw [dig_nat (by omega)]
  rcases hb with rfl | rfl <;> (repeat' split) <;> first | (congr 1; omega) | omega | rfl
theorem rdr_snoc (b most : Nat) (c : UInt8) : ∀ (l : List UInt8) (u : Nat), rdr b most u (l ++ [c]) = match rdr b most u l with
    | none => none
    | some v => match dof b c with
      | none => none
      | some d => if (most - d) / b < v then none else some (v * b + d)
  | [], u => by simp only [List.nil_append, rdr]
  | e :: l, u => by
    rw [List.cons_append, rdr, rdr]
    cases dof b e with
    | none => rfl
    | some d =>
      simp only
      split
      · rfl
      · exact rdr_snoc b most c l _
theorem rdr_digs {b most : Nat} (hb : b = 10 ∨ b = 16) : ∀ (m n : Nat), n ≤ m → n ≤ most → b ≤ most → rdr b most 0 (digs b n) = some n
  | m, n, hm, hn, hbm => by
    by_cases h : n < b
    · rw [digs_lt h, rdr, dof_dig hb h]
      simp only
      rw [if_neg (Nat.not_lt_zero _), rdr, Nat.zero_mul, Nat.zero_add]
    · match m, hm with
      | 0, hm => omega
      | m + 1, hm =>
        have hlt : n % b < b := Nat.mod_lt _ (by omega)
        have hd : n / b ≤ n := Nat.div_le_self _ _
        have hd2 : n / b < n := Nat.div_lt_self (by omega) (by omega)
        rw [digs_ge (by omega) (by omega), rdr_snoc, rdr_digs hb m (n / b) (by omega) (by omega) hbm, dof_dig hb hlt]
        simp only
        have he := Nat.div_add_mod n b
        have h2 : ¬ (most - n % b) / b < n / b := by
          rcases hb with rfl | rfl <;> omega
        rw [if_neg h2]
        congr 1
        rcases hb with rfl | rfl <;> omega
/-- Are all hex digits? -/
def hexB (c : UInt8) : Bool := (dof 16 c).isSome
theorem hexB_val {c : UInt8} (h : hexB c = true) : dof 16 c = some (dval c) := by
  unfold hexB at h
  unfold dof at h ⊢
  unfold dval
  split
  · rename_i hc; rw [if_pos (by omega)]
  · rename_i hc
    rw [if_neg hc] at h
    split
    · rename_i hd; rw [if_neg (by omega)]
    · rename_i hd; rw [if_neg hd] at h; cases h
theorem dval_lt {c : UInt8} (h : hexB c = true) : dval c < 16 := dof_lt (.inr rfl) (hexB_val h)
theorem hexB_digB {c : UInt8} (h : digB c = true) (h2 : c.toNat ≤ 57 ∨ 65 ≤ c.toNat) : hexB c = true := by
  unfold digB at h
  simp only [Bool.and_eq_true, decide_eq_true_eq] at h
  unfold hexB dof
  split
  · rfl
  · split
    · rfl
    · omega
theorem hexB_dig {n : Nat} (h : n < 16) : hexB (dig n) = true := by
  unfold hexB
  rw [dof_dig (.inr rfl) h]
  rfl
theorem hexB_digs : ∀ (m n : Nat), n ≤ m → (digs 16 n).all hexB = true
  | m, n, hm => by
    by_cases h : n < 16
    · rw [digs_lt h]; simp [hexB_dig h]
    · match m, hm with
      | 0, hm => omega
      | m + 1, hm =>
        rw [digs_ge (by omega) (by omega), List.all_append, hexB_digs m (n / 16) (by omega)]
        simp [hexB_dig (Nat.mod_lt n (by omega : 16 > 0))]
theorem hexB_hexP (n l : Nat) : (hexP n l).all hexB = true := by
  unfold hexP
  rw [List.all_append, hexB_digs n n (Nat.le_refl _), Bool.and_true, List.all_eq_true]
  intro x hx
  rw [List.mem_replicate] at hx
  rw [hx.2]; rfl
/-- What is read of hex digits, with a number ahead. -/
def accH (u : Nat) (l : List UInt8) : Nat := l.foldl (fun a c => a * 16 + dval c) u
theorem rdr_hex (k : Nat) : ∀ (l : List UInt8) (u : Nat), l.length ≤ k → u < 16 ^ (15 - k) → k ≤ 15 → rdr 16 1152921504606846975 u l = if l.all hexB then some (accH u l) else none := by
  intro l
  induction l generalizing k with
  | nil => intro u _ _ _; rfl
  | cons c l ih =>
    intro u hl hu hk
    rw [rdr, List.all_cons]
    simp only [List.length_cons] at hl
    obtain ⟨k, rfl⟩ : ∃ k', k = k' + 1 := ⟨k - 1, by omega⟩
    cases hc : hexB c with
    | false =>
      have : dof 16 c = none := by
        unfold hexB at hc
        cases hd : dof 16 c with
        | none => rfl
        | some d => rw [hd] at hc; cases hc
      rw [this]; rfl
    | true =>
      have hd := dval_lt hc
      rw [hexB_val hc, Bool.true_and]
      simp only
      have hp : 16 ^ (15 - k) = 16 ^ (15 - (k + 1)) * 16 := by
        rw [← Nat.pow_succ]
        congr 1
        omega
      have hp14 : 16 ^ (15 - (k + 1)) ≤ 16 ^ 14 := Nat.pow_le_pow_right (by omega) (by omega)
      have e14 : (16 : Nat) ^ 14 = 72057594037927936 := by decide
      rw [if_neg (by omega)]
      exact ih k (u * 16 + dval c) (by omega) (by rw [hp]; omega) (by omega)
theorem accH_lt : ∀ (l : List UInt8) (u k : Nat), l.all hexB = true → l.length ≤ k → k ≤ 15 → u < 16 ^ (15 - k) → accH u l < 16 ^ 15 := by
  intro l
  induction l with
  | nil =>
    intro u k _ _ hk hu
    exact Nat.lt_of_lt_of_le hu (Nat.pow_le_pow_right (by omega) (by omega))
  | cons c l ih =>
    intro u k ha hl hk hu
    rw [List.all_cons, Bool.and_eq_true] at ha
    simp only [List.length_cons] at hl
    obtain ⟨k, rfl⟩ : ∃ k', k = k' + 1 := ⟨k - 1, by omega⟩
    have hd := dval_lt ha.1
    have hp : 16 ^ (15 - k) = 16 ^ (15 - (k + 1)) * 16 := by
      rw [← Nat.pow_succ]
      congr 1
      omega
    exact ih (u * 16 + dval c) k ha.2 (by omega) (by omega) (by rw [hp]; omega)
theorem accH_lt2 : ∀ (l : List UInt8) (u : Nat), l.all hexB = true → accH u l < (u + 1) * 16 ^ l.length
  | [], u, _ => by simp [accH]
  | c :: l, u, h => by
    rw [List.all_cons, Bool.and_eq_true] at h
    have hd := dval_lt h.1
    have ih := accH_lt2 l (u * 16 + dval c) h.2
    show accH (u * 16 + dval c) l < _
    rw [List.length_cons, Nat.pow_succ, Nat.mul_comm (16 ^ l.length) 16, ← Nat.mul_assoc]
    exact Nat.lt_of_lt_of_le ih (Nat.mul_le_mul_right _ (by omega))
theorem valH_lt14 {l : List UInt8} (h : l.all hexB = true) (hl : l.length ≤ 14) : valH l < 72057594037927936 := by
  have h1 := accH_lt2 l 0 h
  have h2 : (16 : Nat) ^ l.length ≤ 16 ^ 14 := Nat.pow_le_pow_right (by omega) hl
  have e : (16 : Nat) ^ 14 = 72057594037927936 := by decide
  have h3 : valH l = accH 0 l := rfl
  omega
/-- The number of hex digits, if these are some. -/
def unhex (l : List UInt8) : Option Nat := if 0 < l.length ∧ l.length ≤ 15 ∧ l.all hexB = true then some (valH l) else none
theorem unhex_hexP {n l : Nat} (h : (hexP n l).length ≤ 15) (h0 : 0 < (hexP n l).length) : unhex (hexP n l) = some n := by
  unfold unhex
  rw [if_pos ⟨h0, h, hexB_hexP n l⟩, valH_hexP]
theorem unhex_lt {l : List UInt8} {n : Nat} (h : unhex l = some n) : n < 1152921504606846976 := by
  unfold unhex at h
  split at h
  · rename_i hc
    cases h
    have := accH_lt l 0 15 hc.2.2 hc.2.1 (Nat.le_refl _) (by decide)
    exact Nat.lt_of_lt_of_eq this (by decide)
  · cases h
/-- A number's digits, with a '-' ahead of one below 0. -/
def decS (n : Int) : List UInt8 := if n < 0 then 45 :: digs 10 (-n).toNat else digs 10 n.toNat
theorem digs10_len {n : Nat} (h : n < 18446744073709551616) : (digs 10 n).length ≤ 64 := digs_len 10 (by omega) 63 n h
theorem digs10_head : ∀ (m n : Nat), n ≤ m → ∃ c l, digs 10 n = c :: l ∧ c ≠ 45
  | m, n, hm => by
    by_cases h : n < 10
    · refine ⟨dig n, [], digs_lt h, fun e => ?_⟩
      have := congrArg UInt8.toNat e
      rw [dig_nat (by omega), if_pos h] at this
      simp at this
      omega
    · match m, hm with
      | 0, hm => omega
      | m + 1, hm =>
        obtain ⟨c, l, h1, h2⟩ := digs10_head m (n / 10) (by omega)
        exact ⟨c, l ++ [dig (n % 10)], by rw [digs_ge (by omega) (by omega), h1]; rfl, h2⟩
end Go.Proofs.Yticllcglldbffaa.Ab
