import Derived.Test.YticllcglldbffaaDoorN1
namespace Go.Proofs.YticllcglldbffaaDoor.Ab
set_option linter.unusedVariables false
set_option linter.unusedSimpArgs false
def dof (b : Nat) (c : UInt8) : Option Nat := if 48 ≤ c.toNat ∧ c.toNat ≤ 57 then some (c.toNat - 48) else if 65 ≤ c.toNat ∧ c.toNat ≤ 70 ∧ 16 ≤ b then some (c.toNat - 55) else none
def rdr (b most : Nat) : Nat → List UInt8 → Option Nat
  | u, [] => some u
  | u, c :: l => match dof b c with
    | none => none
    | some d => if (most - d) / b < u then none else rdr b most (u * b + d) l
theorem UQ {b : Nat} {c : UInt8} {d : Nat} (hb : b = 10 ∨ b = 16) (h : dof b c = some d) : d < b := by
  unfold dof at h
  split at h
  · cases h; omega
  · split at h
    · cases h; omega
    · cases h
theorem LE {b n : Nat} (hb : b = 10 ∨ b = 16) (h : n < b) : dof b (dig n) = some n := by
  unfold dof
  rw [Hv (by omega)]
  rcases hb with rfl | rfl <;> (repeat' split) <;> first | (congr 1; omega) | omega | rfl
theorem IL (b most : Nat) (c : UInt8) : ∀ (l : List UInt8) (u : Nat), rdr b most u (l ++ [c]) = match rdr b most u l with
    | none => none
    | some v => match dof b c with
      | none => none
      | some d => if (most - d) / b < v then none else some (v * b + d)
  | [], u => by simp only [List.nil_append, rdr]
  | e :: l, u => by
    rw [List.cons_append, rdr, rdr]
    cases dof b e with
    | none => rfl
    | some d =>
      simp only
      split
      · rfl
      · exact IL b most c l _
theorem vq {b most : Nat} (hb : b = 10 ∨ b = 16) : ∀ (m n : Nat), n ≤ m → n ≤ most → b ≤ most → rdr b most 0 (dT b n) = some n
  | m, n, hm, hn, hbm => by
    by_cases h : n < b
    · rw [dY h, rdr, LE hb h]
      simp only
      rw [if_neg (Nat.not_lt_zero _), rdr, Nat.zero_mul, Nat.zero_add]
    · match m, hm with
      | 0, hm => omega
      | m + 1, hm =>
        have hlt : n % b < b := Nat.mod_lt _ (by omega)
        have hd : n / b ≤ n := Nat.div_le_self _ _
        have hd2 : n / b < n := Nat.div_lt_self (by omega) (by omega)
        rw [fk (by omega) (by omega), IL, vq hb m (n / b) (by omega) (by omega) hbm, LE hb hlt]
        simp only
        have he := Nat.div_add_mod n b
        have h2 : ¬ (most - n % b) / b < n / b := by
          rcases hb with rfl | rfl <;> omega
        rw [if_neg h2]
        congr 1
        rcases hb with rfl | rfl <;> omega
def aX (n : Int) : List UInt8 := if n < 0 then 45 :: dT 10 (-n).toNat else dT 10 n.toNat
theorem nh {n : Nat} (h : n < 18446744073709551616) : (dT 10 n).length ≤ 64 := uN 10 (by omega) 63 n h
theorem qe : ∀ (m n : Nat), n ≤ m → ∃ c l, dT 10 n = c :: l ∧ c ≠ 45
  | m, n, hm => by
    by_cases h : n < 10
    · refine ⟨dig n, [], dY h, fun e => ?_⟩
      have := congrArg UInt8.toNat e
      rw [Hv (by omega), if_pos h] at this
      simp at this
      omega
    · match m, hm with
      | 0, hm => omega
      | m + 1, hm =>
        obtain ⟨c, l, h1, h2⟩ := qe m (n / 10) (by omega)
        exact ⟨c, l ++ [dig (n % 10)], by rw [fk (by omega) (by omega), h1]; rfl, h2⟩
end Go.Proofs.YticllcglldbffaaDoor.Ab
